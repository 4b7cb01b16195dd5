/- Parts of the proof: walks of functions and plain laws. -/
import Derived.Test.YtgjggeapebbcbaaGreatP0
import Derived.Test.YtgjggeapebbcbaaGreatP8
import Derived.Test.YtgjggeapebbcbaaGreatP7
import Derived.Test.YtgjggeapebbcbaaGreatP3
import Derived.ArgAppend
import Derived.Test.YtgjggeapebbcbaaGreatP5
import Derived.Test.YtgjggeapebbcbaaGreatP1
import Derived.Test.YtgjggeapebbcbaaGreatP4
import Derived.Maps.OwnOps
import Derived.Maps.RangeWalk
import Derived.WalkArith
import Derived.Test.YtgjggeapebbcbaaGreatP6
import Derived.BigQuiet
set_option maxRecDepth 100000
set_option maxHeartbeats 16000000
namespace Go.Proofs.YtgjggeapebbcbaaGreat
open Go Go.RowKit
def cZ (m:List Int) (e:Ed):List Int:=if e.1≠e.2.2.1/\m.getD e.1.toNat 0<0/\m.getD e.2.2.1.toNat 0<0 then (m.set e.1.toNat e.2.1).set e.2.2.1.toNat e.2.2.2 else m
def jv (n:am):List Int:=(eE n).foldl cZ (List.replicate n.ends.length (-1))
structure Dh (n:am) (L:List Ed) (m:List Int):Prop where
 len:m.length=n.ends.length
 mat:∀v,v<n.ends.length->m.getD v 0 = -1\/∃i w j:Nat,m.getD v 0=(i:Int)/\a8 n v i ((w:Int),(j:Int))/\w≠v/\m.getD w 0=(j:Int)
 max:∀e∈L,e.1≠e.2.2.1->0<=m.getD e.1.toNat 0\/0<=m.getD e.2.2.1.toNat 0
theorem G8 {l:List Int} {v w j:Nat} {x y:Int} (hv:v<l.length) (hw:w<l.length):((l.set v x).set w y).getD j 0=if j=w then y else if j=v then x else l.getD j 0:=by
 rw[zDd,List.getElem?_set]
 by_cases e:w=j
 ·subst e;rw[if_pos rfl,if_pos (by simpa using hw),if_pos rfl];rfl
 ·rw[if_neg e,if_neg (Ne.symm e),List.getElem?_set]
  by_cases e2:v=j
  ·subst e2;rw[if_pos rfl,if_pos hv,if_pos rfl];rfl
  ·rw[if_neg e2,if_neg (Ne.symm e2),zDd]
theorem Dh.step {n:am} (hn:aw n=true) {L:List Ed} {e:Ed} (he:e∈eE n) {m:List Int} (h:Dh n L m):Dh n (L++[e]) (cZ m e):=by
 obtain⟨v,i,f,hv,nl,hk,rfl⟩:=d_.1 he;obtain⟨-,f1,f2,f3,iJ⟩:=fA hn nl;obtain⟨w,hw⟩:=Int.eq_ofNat_of_zero_le f1;obtain⟨j,hj⟩:=Int.eq_ofNat_of_zero_le f3;obtain⟨a,b⟩:=f;simp only at hw hj f2
 subst hw hj;have Xl:w<n.ends.length:=by omega
 simp only[Int.toNat_natCast]at iJ;unfold cZ;simp only[Int.toNat_natCast]
 split
 ·rename_i hc
  obtain⟨c1,c2,c3⟩:=hc;have oh:w≠v:=fun h=>c1 (by omega)
  have hg:=fun u=>G8 (l:=m) (v:=v) (w:=w) (j:=u) (x:=(i:Int)) (y:=(j:Int)) (by rw[h.len];exact hv) (by rw[h.len];exact Xl)
  refine⟨by simp[h.len],fun u hu=>?_,fun x hx Di=>?_⟩
  ·rw[hg]
   by_cases e1:u=w
   ·subst e1
    right
    refine⟨j,v,i,by rw[if_pos rfl],iJ,Ne.symm oh,?_⟩
    rw[hg,if_neg (Ne.symm oh),if_pos rfl]
   ·rw[if_neg e1]
    by_cases e2:u=v
    ·subst e2
     right
     refine⟨i,w,j,by rw[if_pos rfl],nl,oh,?_⟩
     rw[hg,if_pos rfl]
    ·rw[if_neg e2];rcases h.mat u hu with h1 | ⟨i2,w2,j2,h1,h2,h3,h4⟩
     ·exact .inl h1
     ·right
      refine⟨i2,w2,j2,h1,h2,h3,?_⟩
      rw[hg,if_neg (fun e=>by subst e;omega),if_neg (fun e=>by subst e;omega)]
      exact h4
  ·rw[hg,hg];rcases List.mem_append.1 hx with hx | hx
   ·rcases h.max x hx Di with h1 | h1
    ·left;split;omega;split;omega;exact h1
    ·right;split;omega;split;omega;exact h1
   ·rw[List.mem_singleton]at hx;subst hx
    left
    simp only[Int.toNat_natCast,if_neg (Ne.symm oh),if_true];omega
 ·rename_i hc
  refine⟨h.len,h.mat,fun x hx Di=>?_⟩
  rcases List.mem_append.1 hx with hx | hx
  ·exact h.max x hx Di
  ·rw[List.mem_singleton]at hx;subst hx;simp only[Int.toNat_natCast]at Di ⊢
   by_cases c2:m.getD v 0<0
   ·by_cases c3:m.getD w 0<0
    ·exact absurd ⟨Di,c2,c3⟩ hc
    ·exact .inr (by omega)
   ·exact .inl (by omega)
theorem Dh.fold {n:am} (hn:aw n=true):∀(R L:List Ed) {m:List Int},(∀e∈R,e∈eE n)->Dh n L m->Dh n (L++R) (R.foldl cZ m)
 | [],L,m,_,h=>by simpa using h
 | e::R,L,m,hR,h=>by
  have h1:=Dh.fold hn R (L++[e]) (fun x hx=>hR x (List.mem_cons_of_mem _ hx)) (h.step hn (hR e (by simp)))
  rw[List.append_assoc]at h1;exact h1
theorem q_ {n:am} (hn:aw n=true):Dh n (eE n) (jv n):=by
 have h0:Dh n [] (List.replicate n.ends.length (-1)):=⟨by simp,fun v hv=>.inl (by rw[zDd,List.getElem?_replicate_of_lt hv];rfl),fun e he=>by simp at he⟩
 have:=Dh.fold hn (eE n) [] (fun e he=>he) h0
 simpa[jv]using this
def kU (n:am):Prop:=∀v i f,a8 n v i f->f.1≠(v:Int)
theorem G9 {n:am} (hn:aw n=true) (hl:kU n) {v i w j:Nat} (h:a8 n v i ((w:Int),(j:Int))):0<=(jv n).getD v 0\/0<=(jv n).getD w 0:=by
 have oh:(w:Int)≠(v:Int):=hl v i _ h;obtain⟨hv,-,f2,-,hb⟩:=fA hn h;simp only[Int.toNat_natCast]at hb f2;have hw:w<n.ends.length:=by omega
 rcases Nat.lt_trichotomy v w with h1 | h1 | h1
 ·have he:((v:Int),(i:Int),(w:Int),(j:Int))∈eE n:=d_.2 ⟨v,i,_,hv,h,by unfold kF;simp;omega,rfl⟩
  have:=(q_ hn).max _ he (by show(v:Int)≠(w:Int);omega)
  simpa using this
 ·omega
 ·have he:((w:Int),(j:Int),(v:Int),(i:Int))∈eE n:=d_.2 ⟨w,j,_,hw,hb,by unfold kF;simp;omega,rfl⟩
  have:=(q_ hn).max _ he (by show(w:Int)≠(v:Int);omega)
  have h3:0<=(jv n).getD w 0\/0<=(jv n).getD v 0:=by simpa using this
  exact h3.symm
def ed (m:Int) (i:Nat):Int:=if m<0 then 2 else if m=(i:Int) then 0 else 1
def ct (a b:Int) (d:Nat):List Int:=a::List.replicate (d-1) b
def lj (d:Nat):aN:=⟨3,d,[ct 0 1 d,ct 2 2 d],[[0,0],[1,1],[1,2]]⟩
def uH (d:Nat):aN:=⟨3,d,[ct 0 0 d,ct 1 2 d],[[0,1],[0,2],[2,2]]⟩
theorem vR {d:Nat} (h:1<=d/\d<=4):eA (lj d)=true:=by
 obtain rfl | rfl | rfl | rfl:d=1\/d=2\/d=3\/d=4:=by omega
 all_goals decide +kernel
theorem BB {d:Nat} (h:1<=d/\d<=4):eA (uH d)=true:=by
 obtain rfl | rfl | rfl | rfl:d=1\/d=2\/d=3\/d=4:=by omega
 all_goals decide +kernel
theorem jo {α:Type} {k:Nat} {f:Nat->α} {v:Nat} (h:v<k):((List.range k).map f)[v]?=some (f v):=by
 rw[List.getElem?_map,List.getElem?_range h];rfl
theorem rM {n:am} {f:Nat->List Int} {v:Nat} (h:v<n.ends.length):((List.range n.ends.length).map f).getD v []=f v:=ag (jo h)
def ge (n:am) (f:Nat->Nat->Int):List (List Int):=(List.range n.ends.length).map fun v=>(List.range (n.ends.getD v []).length).map (f v)
theorem mF (n:am) (f:Nat->Nat->Int):jk n (ge n f):=by
 refine⟨by simp[ge],fun v=>?_⟩
 by_cases h:v<n.ends.length
 ·unfold ge
  rw[rM h];simp
 ·unfold ge;rw[zDd,zDd,List.getElem?_eq_none (by simp;omega),List.getElem?_eq_none (by omega)];rfl
theorem pl {n:am} {f:Nat->Nat->Int} {v i:Nat} (h:bZ (ge n f) v i):aE (ge n f) v i=f v i:=by
 have hv:v<n.ends.length:=by have:=h.lt;simpa[ge]using this
 have hi:i<(n.ends.getD v []).length:=by unfold bZ at h;rw[(mF n f).2 v]at h;exact h
 unfold aE
 have h1:(ge n f).getD v []=(List.range (n.ends.getD v []).length).map (f v):=by unfold ge;exact rM hv
 rw[h1,ag (jo hi)]
theorem BC {n:am} {f:Nat->Nat->Int} {v i:Nat} (h:bZ (ge n f) v i):∃g,a8 n v i g:=by
 unfold bZ at h;rw[(mF n f).2 v]at h;exact ax _ i h
theorem xO {p:aN} {n:am} {f:Nat->Nat->Int} (hp:eA p=true) (hn:aw n=true)
  (hr:∀v i g,a8 n v i g->0<=f v i/\f v i<=p.labels-1)
  (hc:∀v,v<n.ends.length->((n.ends.getD v []).length:Int)=p.degree->db ((List.range (n.ends.getD v []).length).map (f v))∈p.nodes)
  (he:∀v i w j:Nat,a8 n v i ((w:Int),(j:Int))->edgeB p (f v i) (f w j)=true):eo p n (ge n f)=true/\jF p n (ge n f)=true:=by
 have hs:=mF n f
 have hf:di p n (ge n f)=true:=pk hs fun v i hi=>by
  obtain⟨g,hg⟩:=BC hi;rw[pl hi];exact hr v i g hg
 refine⟨by unfold eo;rw[hp,hn,hf];rfl,?_⟩
 rw[mE hp hn hf,iS];obtain⟨-,zt⟩:=jm hf;intro v hv
 have Uc:v<n.ends.length:=by rw[<- hs.1];exact hv
 refine⟨?_,fun i hi=>?_⟩
 ·rw[mC hp (kT zt v)];unfold vN
  have h1:(ge n f).getD v []=(List.range (n.ends.getD v []).length).map (f v):=by unfold ge;exact rM Uc
  rw[h1,List.length_map,List.length_range]
  by_cases hd:((n.ends.getD v []).length:Int)=p.degree
  ·rw[Bool.or_eq_true];exact .inr (List.contains_iff_mem.2 (hc v Uc hd))
  ·rw[beq_eq_false_iff_ne.2 hd];rfl
 ·obtain⟨m1,-,m3⟩:=kq hn hs hi
  have kd:i<(n.ends.getD v []).length:=by unfold bZ at hi;rw[hs.2 v]at hi;exact hi
  have nl:a8 n v i (((cT n v i).1:Int),((cT n v i).2:Int)):=by
   unfold a8;rw[<- m3,zDd (l:=n.ends.getD v []),List.getElem?_eq_getElem kd]
   rfl
  unfold nJ;rw[pl hi,pl m1,he _ _ _ _ nl];simp
theorem eM {xs ys:List Int} (hy:ys.Pairwise (· <= ·)) (h:xs.Perm ys):db xs=ys:=mW ((jc xs).trans h) (fp xs) hy
theorem fV {a b:Int} (h:a<=b) (d:Nat):(ct a b d).Pairwise (· <= ·):=by
 unfold ct;rw[List.pairwise_cons]
 refine⟨fun x hx=>by rw[List.eq_of_mem_replicate hx];exact h,?_⟩
 rw[List.pairwise_replicate];exact .inr (Int.le_refl _)
theorem row_one {a b:Int} {d k:Nat} (hk:k<d):((List.range d).map fun i=>if i=k then a else b).Perm (ct a b d):=by
 obtain⟨r,rfl⟩:∃r,d=k+1+r:=⟨d-(k+1),by omega⟩
 have h1:(List.range (k+1+r)).map (fun i=>if i=k then a else b)=List.replicate k b++a::List.replicate r b:=by
  refine List.ext_getElem? fun j=>?_
  by_cases hj:j<k+1+r
  ·rw[jo hj];rcases Nat.lt_trichotomy j k with h | h | h
   ·rw[if_neg (by omega),List.getElem?_append_left (by simpa using h),List.getElem?_replicate_of_lt h]
   ·subst h;rw[if_pos rfl,List.getElem?_append_right (by simp),List.length_replicate,Nat.sub_self];rfl
   ·rw[if_neg (by omega),List.getElem?_append_right (by simp;omega),List.length_replicate];obtain⟨q,hq⟩:∃q,j-k=q+1:=⟨j-k-1,by omega⟩
    rw[hq,List.getElem?_cons_succ,List.getElem?_replicate_of_lt (by omega)]
  ·rw[List.getElem?_eq_none (by simp;omega),List.getElem?_eq_none (by simp;omega)]
 rw[h1];unfold ct;rw[show k+1+r-1=k+r by omega,<- List.replicate_append_replicate]
 exact List.perm_middle
theorem xP {a:Int} {d:Nat} (hd:0<d) {f:Nat->Int} (hf:∀i,i<d->f i=a):(List.range d).map f=ct a a d:=by
 unfold ct;rw[<- List.replicate_succ,show d-1+1=d by omega,List.eq_replicate_iff]
 refine⟨by simp,fun x hx=>?_⟩
 obtain⟨i,hi,rfl⟩:=List.mem_map.1 hx;exact hf i (List.mem_range.1 hi)
theorem nZ (d:Nat) (x y:Int):edgeB (lj d) x y=([[0,0],[1,1],[1,2]]:List (List Int)).contains [min x y,max x y]:=rfl
theorem rN (d:Nat) (x y:Int):edgeB (uH d) x y=([[0,1],[0,2],[2,2]]:List (List Int)).contains [min x y,max x y]:=rfl
theorem BE {n:am} (hn:aw n=true) (hl:kU n) {d:Nat} (hd:1<=d/\d<=4):eo (lj d) n (ge n fun v i=>ed ((jv n).getD v 0) i)=true/\jF (lj d) n (ge n fun v i=>ed ((jv n).getD v 0) i)=true:=by
 have hI:=q_ hn;refine xO (vR hd) hn (fun v i g _=>?_) (fun v hv nI=>?_) (fun v i w j hp=>?_)
 ·show 0<=ed _ i/\ed _ i<=3-1
  unfold ed
  split
  ·omega
  ·split <;> omega
 ·have nI:((n.ends.getD v []).length:Int)=(d:Int):=nI;have dO:(n.ends.getD v []).length=d:=by omega
  rw[dO];show _∈[ct 0 1 d,ct 2 2 d]
  rcases hI.mat v hv with h1 | ⟨i,w,j,h1,h2,-,-⟩
  ·have h3:(List.range d).map (ed ((jv n).getD v 0))=ct 2 2 d:=xP (by omega) fun i _=>by unfold ed;rw[if_pos (by omega)]
   rw[h3,eM (fV (Int.le_refl _) d) (List.Perm.refl _)];simp
  ·have hi:i<d:=by have:=ai h2;omega
   have h3:(List.range d).map (ed ((jv n).getD v 0))=(List.range d).map fun k=>if k=i then 0 else 1:=by
    refine List.map_congr_left fun k _=>?_
    unfold ed;rw[h1,if_neg (by omega)]
    by_cases e:k=i
    ·rw[if_pos e,if_pos (by omega)]
    ·rw[if_neg e,if_neg (by omega)]
   rw[h3,eM (fV (by omega) d) (row_one hi)];simp
 ·have oh:(w:Int)≠(v:Int):=hl v i _ hp;obtain⟨hv,-,f2,-,hb⟩:=fA hn hp;simp only[Int.toNat_natCast]at hb f2;have hw:w<n.ends.length:=by omega
  have BF:=G9 hn hl hp
  have mM:∀(v w i j:Nat),v<n.ends.length->a8 n v i ((w:Int),(j:Int))->a8 n w j ((v:Int),(i:Int))->(jv n).getD v 0=(i:Int)->(jv n).getD w 0=(j:Int):=fun v w i j hv hp _ h=>by
   rcases hI.mat v hv with h1 | ⟨i2,w2,j2,h1,h2,-,h4⟩
   ·omega
   ·obtain rfl:i=i2:=by omega
    have h5:((w:Int),(j:Int))=((w2:Int),(j2:Int)):=Option.some.inj (hp.symm.trans h2);have h6:=congrArg Prod.fst h5;have h7:=congrArg Prod.snd h5;simp at h6 h7
    obtain rfl:w=w2:=by omega
    obtain rfl:j=j2:=by omega
    exact h4
  show edgeB (lj d) (ed _ i) (ed _ j)=true
  unfold ed
  by_cases a1:(jv n).getD v 0<0
  ·rw[if_pos a1]
   by_cases a2:(jv n).getD w 0<0
   ·omega
   ·rw[if_neg a2]
    by_cases a3:(jv n).getD w 0=(j:Int)
    ·have:=mM w v j i hw hb hp a3
     omega
    ·rw[if_neg a3];rw[nZ];decide
  ·rw[if_neg a1]
   by_cases a3:(jv n).getD v 0=(i:Int)
   ·have h5:=mM v w i j hv hp hb a3
    rw[if_pos a3,if_neg (by omega),if_pos h5];rw[nZ];decide
   ·rw[if_neg a3]
    by_cases a2:(jv n).getD w 0<0
    ·rw[if_pos a2];rw[nZ];decide
    ·rw[if_neg a2]
     by_cases a4:(jv n).getD w 0=(j:Int)
     ·exact absurd (mM w v j i hw hb hp a4) a3
     ·rw[if_neg a4];rw[nZ];decide
def nearIn (n:am) (v:Nat) (s:List Int):Bool:=(n.ends.getD v []).any fun e=>s.contains e.1
def vS (n:am) (v:Nat):Bool:=(n.ends.getD v []).any fun e=>e.1==(v:Int)
def bR (n:am) (s:List Int) (v:Int):List Int:=if vS n v.toNat||nearIn n v.toNat s then s else s++[v]
def yV (n:am) (o:List Int):List Int:=o.foldl (bR n) []
structure Dj (n:am) (L s:List Int):Prop where
 sub:∀v∈s,0<=v/\v<n.ends.length
 ind:∀v i w j:Nat,a8 n v i ((w:Int),(j:Int))->(v:Int)∈s->(w:Int)∉s
 max:∀v:Nat,(v:Int)∈L->(v:Int)∈s\/nearIn n v s=true
theorem iT {n:am} {v:Nat} {s:List Int}:nearIn n v s=true↔∃i f,a8 n v i f/\f.1∈s:=by
 unfold nearIn a8
 rw[List.any_eq_true];constructor
 ·rintro⟨e,he,h⟩;obtain⟨i,hi⟩:=List.getElem?_of_mem he;exact⟨i,e,hi,List.contains_iff_mem.1 h⟩
 ·rintro⟨i,f,h1,h2⟩;exact⟨f,List.mem_of_getElem? h1,List.contains_iff_mem.2 h2⟩
theorem Dj.step {n:am} (hn:aw n=true) (hl:kU n) {L s:List Int} {x:Int} (hx:0<=x/\x<n.ends.length) (h:Dj n L s):Dj n (L++[x]) (bR n s x):=by
 obtain⟨v,rfl⟩:=Int.eq_ofNat_of_zero_le hx.1
 have ho:vS n v=false:=by
  unfold vS;rw[List.any_eq_false];intro e he h2;obtain⟨i,hi⟩:=List.getElem?_of_mem he;exact hl v i e hi (by simpa using h2)
 have fY:bR n s (v:Int)=if nearIn n v s=true then s else s++[(v:Int)]:=by simp only[bR,Int.toNat_natCast,ho,Bool.false_or]
 rw[fY];cases hb:nearIn n v s
 ·rw[if_neg (by simp)]
  have kL:∀i f,a8 n v i f->f.1∉s:=fun i f hp hm=>by
   have:=iT.2 ⟨i,f,hp,hm⟩
   rw[hb]at this;cases this
  refine⟨fun u hu=>?_,fun a i b j hp ha hb2=>?_,fun u hu=>?_⟩
  ·rcases List.mem_append.1 hu with hu | hu
   ·exact h.sub u hu
   ·rw[List.mem_singleton]at hu;subst hu;exact hx
  ·obtain⟨-,-,-,-,iJ⟩:=fA hn hp;simp only[Int.toNat_natCast]at iJ;rcases List.mem_append.1 ha with Ud | ha
   ·rcases List.mem_append.1 hb2 with hb2 | hb2
    ·exact h.ind a i b j hp Ud hb2
    ·rw[List.mem_singleton]at hb2;obtain rfl:b=v:=by omega
     exact kL _ _ iJ Ud
   ·rw[List.mem_singleton]at ha;obtain rfl:a=v:=by omega
    rcases List.mem_append.1 hb2 with hb2 | hb2
    ·exact kL _ _ hp hb2
    ·rw[List.mem_singleton]at hb2;exact hl a i _ hp hb2
  ·rcases List.mem_append.1 hu with hu | hu
   ·rcases h.max u hu with h1 | h1
    ·exact .inl (List.mem_append_left _ h1)
    ·obtain⟨i,f,h2,h3⟩:=iT.1 h1;exact .inr (iT.2 ⟨i,f,h2,List.mem_append_left _ h3⟩)
   ·exact .inl (List.mem_append_right _ hu)
 ·rw[if_pos rfl];refine⟨h.sub,h.ind,fun u hu=>?_⟩
  rcases List.mem_append.1 hu with hu | hu
  ·exact h.max u hu
  ·rw[List.mem_singleton]at hu;obtain rfl:u=v:=by omega
   exact .inr hb
theorem Dj.fold {n:am} (hn:aw n=true) (hl:kU n):∀(R L:List Int) {s:List Int},(∀x∈R,0<=x/\x<n.ends.length)->Dj n L s->Dj n (L++R) (R.foldl (bR n) s)
 | [],L,s,_,h=>by simpa using h
 | e::R,L,s,hR,h=>by
  have h1:=Dj.fold hn hl R (L++[e]) (fun x hx=>hR x (List.mem_cons_of_mem _ hx)) (h.step hn hl (hR e (by simp)))
  rw[List.append_assoc]at h1;exact h1
def aF (k:Nat):List Int:=(List.range k).map fun v=>((k-1-v:Nat):Int)
theorem vT {k v:Nat} (h:v<k):(v:Int)∈aF k:=List.mem_map.2 ⟨k-1-v,List.mem_range.2 (by omega),by rw[show k-1-(k-1-v)=v by omega]⟩
theorem jp {k:Nat} {x:Int} (h:x∈aF k):0<=x/\x<k:=by
 obtain⟨v,hv,rfl⟩:=List.mem_map.1 h
 have:=List.mem_range.1 hv
 omega
theorem Lf {n:am} (hn:aw n=true) (hl:kU n):Dj n (aF n.ends.length) (yV n (aF n.ends.length)):=by
 have h0:Dj n [] []:=⟨fun v hv=>by simp at hv,fun v i w j _ hv=>by simp at hv,fun v hv=>by simp at hv⟩
 have:=Dj.fold hn hl (aF n.ends.length) [] (fun x hx=>jp hx) h0
 simpa[yV]using this
def jW (s:List Int) (es:List (Int×Int)) (i:Nat):Bool:=!((es.take i).any fun e=>s.contains e.1)
def dC (n:am) (s:List Int) (v i:Nat):Int:=if s.contains (v:Int) then 0 else if jW s (n.ends.getD v []) i&&s.contains ((n.ends.getD v []).getD i (0,0)).1 then 1 else 2
theorem G_ {n:am} (hn:aw n=true) {s:List Int} (DX:∀v i w j:Nat,a8 n v i ((w:Int),(j:Int))->(v:Int)∈s->(w:Int)∉s) (BF:∀v:Nat,v<n.ends.length->(v:Int)∈s\/nearIn n v s=true) {d:Nat} (hd:1<=d/\d<=4):
  eo (uH d) n (ge n (dC n s))=true/\jF (uH d) n (ge n (dC n s))=true:=by
 refine xO (BB hd) hn (fun v i g _=>?_) (fun v hv nI=>?_) (fun v i w j hp=>?_)
 ·show 0<=dC n s v i/\dC n s v i<=3-1
  unfold dC
  split
  ·omega
  ·split <;> omega
 ·have nI:((n.ends.getD v []).length:Int)=(d:Int):=nI;have dO:(n.ends.getD v []).length=d:=by omega
  show _∈[ct 0 0 d,ct 1 2 d]
  by_cases hs:(v:Int)∈s
  ·have h3:(List.range (n.ends.getD v []).length).map (dC n s v)=ct 0 0 d:=by
    rw[dO]
    exact xP (by omega) fun i _=>by unfold dC;rw[if_pos (List.contains_iff_mem.2 hs)]
   rw[h3,eM (fV (Int.le_refl _) d) (List.Perm.refl _)];simp
  ·obtain⟨i0,f0,Jr,Hj⟩:=iT.1 ((BF v hv).resolve_left hs)
   obtain⟨k,⟨f,Qf,sV⟩,FH⟩:∃k,(∃f,a8 n v k f/\f.1∈s)/\∀j,j<k->¬ ∃f,a8 n v j f/\f.1∈s:=by
    have mM:∀q,(∃k,k<q/\(∃f,a8 n v k f/\f.1∈s)/\∀j,j<k->¬ ∃f,a8 n v j f/\f.1∈s)\/∀j,j<q->¬ ∃f,a8 n v j f/\f.1∈s:=fun q=>by
     induction q with
     | zero=>exact .inr fun j hj=>by omega
     | succ q ih=>
      rcases ih with⟨k,h1,h2⟩ | h
      ·exact .inl ⟨k,by omega,h2⟩
      ·by_cases hq:∃f,a8 n v q f/\f.1∈s
       ·exact .inl ⟨q,by omega,hq,h⟩
       ·right
        intro j hj;rcases Nat.lt_or_eq_of_le (Nat.le_of_lt_succ hj)with h1 | h1
        ·exact h j h1
        ·rw[h1];exact hq
    rcases mM (i0+1)with⟨k,-,h1,h2⟩ | h
    ·exact⟨k,h1,h2⟩
    ·exact absurd ⟨f0,Jr,Hj⟩ (h i0 (by omega))
   have hk:k<d:=by have:=ai Qf;omega
   have h3:(List.range (n.ends.getD v []).length).map (dC n s v)=(List.range d).map fun i=>if i=k then 1 else 2:=by
    rw[dO];refine List.map_congr_left fun i hi=>?_
    have hi:=List.mem_range.1 hi;unfold dC;rw[if_neg (fun h=>hs (List.contains_iff_mem.1 h))]
    obtain⟨g,hg⟩:=ax (n.ends.getD v []) i (by omega);rw[ag hg]
    by_cases e:i=k
    ·subst e;have Xm:g=f:=Option.some.inj (hg.symm.trans Qf)
     have h4:jW s (n.ends.getD v []) i=true:=by
      unfold jW;rw[Bool.not_eq_true',List.any_eq_false];intro x hx h5;obtain⟨j,hj⟩:=List.getElem?_of_mem hx;have vq:=ai hj;rw[List.length_take]at vq;rw[List.getElem?_take_of_lt (by omega)]at hj;exact FH j (by omega) ⟨x,hj,List.contains_iff_mem.1 h5⟩
     rw[h4,Xm,List.contains_iff_mem.2 sV,if_pos rfl];rfl
    ·rw[if_neg e];rcases Nat.lt_or_gt_of_ne e with h5 | h5
     ·have:s.contains g.1=false:=by
       rw[Bool.eq_false_iff];intro h6;exact FH i h5 ⟨g,hg,List.contains_iff_mem.1 h6⟩
      rw[this,Bool.and_false];rfl
     ·have:jW s (n.ends.getD v []) i=false:=by
       unfold jW;rw[Bool.not_eq_false',List.any_eq_true];refine⟨f,List.mem_of_getElem? (i:=k) ?_,List.contains_iff_mem.2 sV⟩;rw[List.getElem?_take_of_lt h5];exact Qf
      rw[this,Bool.false_and];rfl
   rw[h3,eM (fV (by omega) d) (row_one hk)];simp
 ·obtain⟨hv,-,f2,-,hb⟩:=fA hn hp;simp only[Int.toNat_natCast]at hb f2;have hw:w<n.ends.length:=by omega
  have e1:((n.ends.getD v []).getD i (0,0)).1=(w:Int):=by rw[ag (show(n.ends.getD v [])[i]?=_ from hp)]
  have e2:((n.ends.getD w []).getD j (0,0)).1=(v:Int):=by rw[ag (show(n.ends.getD w [])[j]?=_ from hb)]
  unfold dC;rw[e1,e2]
  by_cases a1:(v:Int)∈s
  ·have a2:=DX v i w j hp a1;rw[if_pos (List.contains_iff_mem.2 a1),if_neg (fun h=>a2 (List.contains_iff_mem.1 h))]
   rw[rN];split <;> decide
  ·rw[if_neg (fun h=>a1 (List.contains_iff_mem.1 h))]
   have b1:s.contains (v:Int)=false:=by rw[Bool.eq_false_iff];exact fun h=>a1 (List.contains_iff_mem.1 h)
   by_cases a2:(w:Int)∈s
   ·rw[if_pos (List.contains_iff_mem.2 a2)]
    rw[rN];split <;> decide
   ·have b2:s.contains (w:Int)=false:=by rw[Bool.eq_false_iff];exact fun h=>a2 (List.contains_iff_mem.1 h)
    rw[if_neg (fun h=>a2 (List.contains_iff_mem.1 h)),rN]
    simp only[b1,b2,Bool.and_false];decide
section
variable {α : Type} {p : α → Bool} {xs : List α}
theorem xQ (h:xs.any p=false):xs.findIdx? p=none:=by
 rw[List.findIdx?_eq_none_iff];intro x hx;rw[List.any_eq_false]at h;simpa using h x hx
theorem BG {k:Nat} {x:α} (hx:xs[k]?=some x) (hp:p x=true) (h:(xs.take k).any p=false):xs.findIdx? p=some k:=by
 obtain⟨hk,rfl⟩:=List.getElem?_eq_some_iff.1 hx;rw[List.findIdx?_eq_some_iff_getElem];refine⟨hk,hp,fun j hj=>?_⟩
 rw[List.any_eq_false]at h
 have:=h xs[j] (List.mem_take_iff_getElem.2 ⟨j,by omega,rfl⟩)
 simpa using this
theorem ra {k:Nat} {x:α} (hx:xs[k]?=some x) (h:(xs.take k).any p=false) (hp:p x=false):(xs.take (k+1)).any p=false:=by
 rw[aK hx,List.any_append,h];simp[hp]
end
def pm (p:Int×Int->Bool) (es:List (Int×Int)):Int:=match es.findIdx? p with | some i=>(i:Int) | none => -1
def BH (w0:World) (iq:FuncId) (fj:Array Value) (p:Int×Int->Bool) (xs:List (Int×Int)):Prop:=
 ∀x∈xs,∀w,aa w0 w->Calls Tryz.prog iq (#[.agg #[.int .i64 x.1,.int .i64 x.2]]++fj) w fun e w'=>e=.returned (.bool (p x))/\Below w.heap.size w w'
theorem nL (v:Value) (xs:List (Int×Int)) (iq:FuncId) (fj:Array Value) (p:Int×Int->Bool) (w:World) (h:ol w v xs) (ew:∀args w,(callFunc iq args).run Tryz.prog w=.ok (.enter iq args) w) (hp:BH w iq fj p xs):
  Calls Tryz.prog 161 #[v,.func (.func iq) #[] fj] w fun e w'=>e=.returned (.int .i64 (pm p xs))/\Below w.heap.size w w':=by
 have H:=zh h;obtain⟨A,c,rfl,er,hm,hA⟩:=h;unfold maxLen at hm;have HA:=zh hA;clear hA;have Hp:=zh hp;have eg:=ew;clear hp
 go_enter Tryz.func161,Tryz.ntmps161
 go_wp2
 go_loopw [8] (fun i wr=>∃k:Nat,k<=xs.length/\i=.int .i64 k/\(xs.take k).any p=false/\aa w wr) (fun i _=>xs.length-(intOf i).toNat)
 case atStart=>exact⟨0,Nat.zero_le _,rfl,rfl,ab _⟩
 case round=>
  obtain⟨k,hk,rfl,od,hb⟩:=hrel;have lk:=zh od;have Hb:=zh hb;clear od hb
  by_cases aH:k<xs.length
  ·obtain⟨x,hx⟩:=ax xs k aH;obtain⟨b,off,rfl,xM,bS⟩:=HA.out k x hx;have d0:=Hb.out.cell xM;have d1:=Hb.out.cell bS;have Hx:=zh hx;have iM:=Hp.out x (List.mem_of_getElem? hx) wr Hb.out;obtain⟨y,hy⟩:∃y,y=p x:=⟨_,rfl⟩
   have Hy:=zh hy;rw[<- hy]at iM;have s8:=zh iM;clear hy iM hx xM bS;go_wp2_with fail;refine s8.out.mono ?_;rintro e w1 ⟨rfl,aJ⟩;have fL:=zh (Hb.out.trans aJ);clear aJ;cases y
   ·go_wp2;go_roundw
    case rel=>exact⟨k+1,by omega,by go_num,ra Hx.out lk.out Hy.out.symm,fL.out⟩
    case measure=>simp[intOf];omega
   ·have Hr:Hid (pm p xs=k):=by show _=_;unfold pm;rw[BG Hx.out Hy.out.symm lk.out]
    go_wp2;go_ret;exact⟨congrArg (fun i=>Ending.returned (.int .i64 i)) Hr.out.symm,fL.out⟩
  ·obtain rfl:k=xs.length:=by omega
   have Hr:Hid (pm p xs = -1):=by show _=_;unfold pm;rw[xQ (by have:=lk.out;rwa [List.take_length]at this)]
   go_wp2;go_ret;exact⟨congrArg (fun i=>Ending.returned (.int .i64 i)) Hr.out.symm,Hb.out⟩
theorem lU {n:am} (hn:aw n=true) {v:Nat} (hv:v<n.ends.length):n.ends[v]?=some (bJ n v)/\(bJ n v).length<=6/\True:=by
 obtain⟨es,ba⟩:=ax n.ends v hv;have e:bJ n v=es:=ag ba;rw[e];exact⟨ba,(e9 hn ba).1,trivial⟩
theorem yW (p:Int×Int->Bool) (es:List (Int×Int)):decide (0<=pm p es)=es.any p:=by
 unfold pm
 cases h:es.any p with
 | false=>rw[xQ h];rfl
 | true=>
  cases h2:es.findIdx? p with
  | none=>
   rw[List.findIdx?_eq_none_iff]at h2;rw[List.any_eq_true]at h;obtain⟨x,hx,hp⟩:=h
   rw[h2 x hx]at hp;cases hp
  | some i=>simp
theorem io (v:Value) (xs:List (Int×Int)) (iq:FuncId) (fj:Array Value) (p:Int×Int->Bool) (w:World) (h:ol w v xs) (ew:∀args w,(callFunc iq args).run Tryz.prog w=.ok (.enter iq args) w) (hp:BH w iq fj p xs):
  Calls Tryz.prog 121 #[v,.func (.func iq) #[] fj] w fun e w'=>e=.returned (.bool (xs.any p))/\Below w.heap.size w w':=by
 have hi:=zh (nL v xs iq fj p w h ew hp);have He:=zh (yW p xs);obtain⟨A,c,rfl,er,hm,hA⟩:=h
 go_enter Tryz.func121,Tryz.ntmps121
 go_wp2_with fail;refine hi.out.mono ?_;rintro e w1 ⟨rfl,hb⟩;have Hb:=zh hb;clear hb;go_wp2;go_ret;exact⟨congrArg (fun b=>Ending.returned (.bool b)) He.out,Hb.out⟩
theorem DY:∀args w,(callFunc 122 args).run Tryz.prog w=.ok (.enter 122 args) w:=enters_of Tryz.func122 (by kernel_rfl) rfl
theorem DZ (x1 x2 x:Int) (bs:Nat) (w:World) (hc:w.cell? ⟨bs,0,none⟩=some (.int .i64 x)):
  Calls Tryz.prog 122 #[.agg #[.int .i64 x1,.int .i64 x2],.pointer (some ⟨bs,0,none⟩)] w fun e w'=>e=.returned (.bool (x1==x))/\Below w.heap.size w w':=by
 have q:=ad hc;have aX:aa w w:=ab _;clear hc
 go_enter Tryz.func122,Tryz.ntmps122
 have bu:aa w (w.alloc (.cells #[.int .i64 x1,.int .i64 x2] 36)):=ae _ aX;go_wp2;go_ret;exact⟨rfl,bu⟩
theorem D3:∀args w,(callFunc 123 args).run Tryz.prog w=.ok (.enter 123 args) w:=enters_of Tryz.func123 (by kernel_rfl) rfl
theorem D4 (x1 x2:Int) (vs:Value) (set:List Int) (bs:Nat) (w:World) (h:aG w vs set) (hc:w.cell? ⟨bs,0,none⟩=some vs):
  Calls Tryz.prog 123 #[.agg #[.int .i64 x1,.int .i64 x2],.pointer (some ⟨bs,0,none⟩)] w fun e w'=>e=.returned (.bool (f8 set x1))/\Below w.heap.size w w':=by
 have H:=zh h;obtain⟨A,c,rfl,_⟩:=h;have q:=ad hc;have aX:aa w w:=ab _;have bu:aa w (w.alloc (.cells #[.int .i64 x1,.int .i64 x2] 36)):=ae _ aX;obtain⟨z,hz⟩:∃z,z=f8 set x1:=⟨_,rfl⟩
 have Hz:=zh hz;rw[<- hz];clear hc hz
 go_enter Tryz.func123,Tryz.ntmps123
 go_wp2_with fail;refine(qj _ set x1 _ (H.out.aab bu.below)).mono ?_;rw[<- Hz.out];rintro e w2 ⟨rfl,rfl⟩;go_wp2;go_ret;exact⟨rfl,bu⟩
theorem po (ve vi vn:Value) (n:am) (v:Nat) (x:Int) (w:World) (h:aI w ve vi vn n) (hn:aw n=true) (hv:v<n.ends.length):
  Calls Tryz.prog 80 #[.agg #[ve,vi,vn],.int .i64 v,.int .i64 x] w fun e w'=>e=.returned (.bool ((bJ n v).any (fun e=>e.1==x)))/\Below w.heap.size w w':=by
 obtain⟨w0,au⟩:∃w0,w0=((w).alloc (.cells #[ve,vi,vn] 27)).alloc (.cells #[.int .i64 x] 3):=⟨_,rfl⟩
 have bO:Below w.heap.size w w0:=by rw[au];exact(((Below.refl _ _).alloc (by simp <;> omega) _).alloc (by simp <;> omega) _)
 have H:=zh (h.aab bO);obtain⟨h1,h2,h3⟩:=h.aab bO;obtain⟨A,c,rfl,er,hm,hA⟩:=h1;obtain⟨A2,c2,rfl,_,et,_⟩:=h2;obtain⟨A3,c3,rfl,_,fG,_⟩:=h3;unfold maxLen at hm et fG
 have e8:∀W,aa w0 W->W.cell? ⟨w.heap.size,0,none⟩=some (.slice A n.ends.length c):=ad (by rw[au];simp)
 have fh:∀W,aa w0 W->W.cell? ⟨w.heap.size,1,none⟩=some (.slice A2 n.ids.length c2):=ad (by rw[au];simp)
 have fi:∀W,aa w0 W->W.cell? ⟨w.heap.size,2,none⟩=some (.slice A3 n.aaa.length c3):=ad (by rw[au];simp)
 have vj:∀W,aa w0 W->W.cell? ⟨w.heap.size+1,0,none⟩=some (.int .i64 x):=ad (by rw[au];simp)
 have aY:=zh bO;have bM:=zh au;have HA:=zh hA;clear hA h;clear bO au;obtain⟨kV,ku,vU⟩:=lU hn hv;obtain⟨es,ba⟩:∃es,es=bJ n v:=⟨_,rfl⟩
 have kB:=zh ba;rw[<- ba]at kV;obtain⟨b,vH,cr,ur,gn,A_,bS,bT⟩:=fo H.out.es kV;cases gn;have tr:=ad bS;have aX:aa w0 w0:=ab _;have Hc:=zh (io ur es _ #[.pointer (some ⟨w.heap.size+1,0,none⟩)] (fun e=>e.1==x) w0 bT DY (fun e _ W hW=>DZ e.1 e.2 x _ W (vj W hW)))
 obtain⟨A1,z1,rfl,cj,cX,_⟩:=bT;clear kV ku vU ba hn bS
 go_enter Tryz.func80,Tryz.ntmps80
 go_upto_region 1 with(fail);rw[<- bM.out];go_wp2_with fail;refine Hc.out.mono ?_;rw[kB.out];rintro e w1 ⟨he,hb⟩;rw[he];clear he;have Hb:=zh hb;clear hb;go_wp2;go_ret;exact⟨rfl,aa.after aY.out Hb.out⟩
theorem rO (ve vi vn vs:Value) (n:am) (v:Nat) (set:List Int) (w:World) (h:aI w ve vi vn n) (BJ:aG w vs set) (hn:aw n=true) (hv:v<n.ends.length):
  Calls Tryz.prog 81 #[.agg #[ve,vi,vn],.int .i64 v,vs] w fun e w'=>e=.returned (.bool ((bJ n v).any (fun e=>f8 set e.1)))/\Below w.heap.size w w':=by
 have rP:=zh BJ;obtain⟨AL,cL,rfl,Pk,Fr,_⟩:=BJ;obtain⟨w0,au⟩:∃w0,w0=((w).alloc (.cells #[ve,vi,vn] 27)).alloc (.cells #[.slice AL set.length cL] 25):=⟨_,rfl⟩
 have bO:Below w.heap.size w w0:=by rw[au];exact(((Below.refl _ _).alloc (by simp <;> omega) _).alloc (by simp <;> omega) _)
 have H:=zh (h.aab bO);obtain⟨h1,h2,h3⟩:=h.aab bO;obtain⟨A,c,rfl,er,hm,hA⟩:=h1;obtain⟨A2,c2,rfl,_,et,_⟩:=h2;obtain⟨A3,c3,rfl,_,fG,_⟩:=h3;unfold maxLen at hm et fG
 have e8:∀W,aa w0 W->W.cell? ⟨w.heap.size,0,none⟩=some (.slice A n.ends.length c):=ad (by rw[au];simp)
 have fh:∀W,aa w0 W->W.cell? ⟨w.heap.size,1,none⟩=some (.slice A2 n.ids.length c2):=ad (by rw[au];simp)
 have fi:∀W,aa w0 W->W.cell? ⟨w.heap.size,2,none⟩=some (.slice A3 n.aaa.length c3):=ad (by rw[au];simp)
 have vj:∀W,aa w0 W->W.cell? ⟨w.heap.size+1,0,none⟩=some (.slice AL set.length cL):=ad (by rw[au];simp)
 have aY:=zh bO;have bM:=zh au;have HA:=zh hA;clear hA h;clear bO au;have HS:=zh (rP.out.aab aY.out);obtain⟨kV,ku,vU⟩:=lU hn hv;obtain⟨es,ba⟩:∃es,es=bJ n v:=⟨_,rfl⟩
 have kB:=zh ba;rw[<- ba]at kV;obtain⟨b,vH,cr,ur,gn,A_,bS,bT⟩:=fo H.out.es kV;cases gn;have tr:=ad bS;have aX:aa w0 w0:=ab _;have Hc:=zh (io ur es _ #[.pointer (some ⟨w.heap.size+1,0,none⟩)] (fun e=>f8 set e.1) w0 bT D3 (fun e _ W hW=>D4 e.1 e.2 _ set _ W (HS.out.aab hW.below) (vj W hW)))
 obtain⟨A1,z1,rfl,cj,cX,_⟩:=bT;clear kV ku vU ba hn bS
 go_enter Tryz.func81,Tryz.ntmps81
 go_upto_region 1 with(fail);rw[<- bM.out];go_wp2_with fail;refine Hc.out.mono ?_;rw[kB.out];rintro e w1 ⟨he,hb⟩;rw[he];clear he;have Hb:=zh hb;clear hb;go_wp2;go_ret;exact⟨rfl,aa.after aY.out Hb.out⟩
theorem vV (n:am) (s:List Int) (v:Int):(bR n s v).length<=s.length+1:=by unfold bR;split <;> simp
theorem xR (n:am) (k:Nat) (os:List Int):((os.take k).foldl (bR n) []).length<=k:=by
 induction k with
 | zero=>simp
 | succ k ih=>
  by_cases hk:k<os.length
  ·obtain⟨x,hx⟩:=ax os k hk;rw[aK hx,List.foldl_append]
   have:=vV n ((os.take k).foldl (bR n) []) x
   show(bR n _ x).length<=_
   omega
  ·rw[List.take_of_length_le (by omega)]at ih ⊢;omega
theorem vW (ve vi vn vo:Value) (n:am) (w:World) (h:aI w ve vi vn n) (os:List Int) (hn:aw n=true) (ho:aG w vo os) (Ue:∀x∈os,0<=x/\x<n.ends.length) (Uf:os.length<=40):
  Calls Tryz.prog 38 #[.agg #[ve,vi,vn],vo] w fun e w'=>∃u,e=.returned u/\Own w' w.heap.size u (db (yV n os))/\Below w.heap.size w w':=by
 have vG:=dj hn
 obtain⟨w0,A,c,A2,c2,A3,c3,rfl,rfl,rfl,er,hm,et,fG,HA,bM,aY,H,e8,fh,fi⟩:=zB h;clear h
 have Qg:Hid (∀(k:Nat) (x:Int),os[k]?=some x->0<=x/\x<n.ends.length):=fun k x hx=>Ue x (List.mem_of_getElem? hx)
 obtain⟨AP,cP,rfl,Xn,FI,Ug⟩:=ho;unfold maxLen at FI
 have HS:=zh (show ∀k x,os[k]?=some x->∃b off,AP=some ⟨b,off,none⟩/\w0.cell? ⟨b,off+k,none⟩=some (.int .i64 x)from fun k x hx=>by obtain⟨b,off,e,hc⟩:=Ug k x hx;exact⟨b,off,e,bc aY.out hc⟩)
 have Hn:=zh hn;have aX:aa w0 w0:=ab _;clear Ug hn Ue
 go_enter Tryz.func38,Tryz.ntmps38
 go_upto_region 1 with(fail);rw[<- bM.out];go_wp2
 go_loopw [5,10] (fun u i wr=>∃(k:Nat) (set:List Int),k<=os.length/\i=.int .i64 k/\set=(os.take k).foldl (bR n) []/\Own wr w0.heap.size u set/\aa w0 wr) (fun _ i _=>os.length-(intOf i).toNat)
 case atStart=>exact⟨0,[],Nat.zero_le _,rfl,by simp,fT _ w0.heap.size,aX⟩
 case round=>
  obtain⟨k,set,hk,rfl,fe,ho,dz⟩:=hrel;have Ho:=zh ho;have mH:=zh fe
  have Xo:set.length<=k:=by rw[fe];exact xR n k os
  clear ho fe aX
  by_cases aH:k<os.length
  ·obtain⟨x,hx⟩:=ax os k aH;obtain⟨b,off,rfl,bW⟩:=HS.out k x hx;have d0:=dz.cell bW;obtain⟨x0,x1⟩:=Qg.out k x hx;obtain⟨v,rfl⟩:=Int.eq_ofNat_of_zero_le x0;have Fp:v<n.ends.length:=by omega
   obtain⟨z,hz⟩:∃z,z=(bJ n v).any (fun e=>f8 set e.1):=⟨_,rfl⟩
   obtain⟨z0,eS⟩:∃z0,z0=(bJ n v).any (fun e=>e.1==(v:Int)):=⟨_,rfl⟩
   have Hz:=zh hz
   have rc:Hid ((os.take (k+1)).foldl (bR n) []=if (z0||z)=true then set else set++[(v:Int)]):=by
    show _=_
    rw[aK hx,List.foldl_append,<- mH.out];show bR n set (v:Int)=_
    rw[eS,hz];rfl
   have m3:IntKind.i64.wrap ((k:Int)+1)=(k:Int)+1:=aR _ (by omega) (by omega);obtain⟨us,Xp⟩:∃us,us=u5:=⟨_,rfl⟩
   subst Xp;obtain⟨Bu,du,rfl,Uh,mX,_⟩:=id Ho.out.ints
   have Xq:Hid (∀W,aa w0 W->Calls Tryz.prog 80 #[.agg #[.slice A n.ends.length c,.slice A2 n.ids.length c2,.slice A3 n.aaa.length c3],.int .i64 v,.int .i64 v] W fun e w'=>e=.returned (.bool z0)/\Below W.heap.size W w'):=fun W hW=>by
    rw[eS];exact po _ _ _ n v (v:Int) W (H.out.aab hW.below) Hn.out Fp
   have PN:Hid (∀W,aa wr W->Calls Tryz.prog 81 #[.agg #[.slice A n.ends.length c,.slice A2 n.ids.length c2,.slice A3 n.aaa.length c3],.int .i64 v,.slice Bu set.length du] W fun e w'=>e=.returned (.bool z)/\Below W.heap.size W w'):=fun W hW=>by
    rw[hz];exact rO _ _ _ _ n v set W (H.out.aab (dz.after hW).below) (Ho.out.ints.aab hW.below) Hn.out Fp
   have ja:Hid (set.length+1<=17592186044416):=by show _<=_;omega
   clear hx bW hz eS x0 x1;go_upto_region 5 with(fail);have tx:=ak e8 dz;have tz:=ak fh dz;have tA:=ak fi dz;have fQ:=zh dz;clear dz d0;refine bI 12 (aa wr) (ab _) ?_;simp only[zT]
   iterate 3 (refine cY rfl ?_;simp only[zA])
   refine ej ?_ rfl ?_ ?_;rotate_left;(intro W hW;unfold bN;go_simp;(with_reducible refine(Xq.out W (fQ.out.after hW)).mono ?_);rintro e W' ⟨rfl,aZ⟩;first | (refine⟨?_,aa.trans hW aZ⟩;with_reducible rfl) | (subst aZ;refine⟨?_,hW⟩;with_reducible rfl))
   simp only[zA]
   iterate 2 (refine cY rfl ?_;simp only[zA])
   iterate 3 (refine kA rfl rfl ?_;simp only[zA])
   refine ck (v:=?_) rfl rfl ?_ ?_;rotate_left;(intro hb;intro W hW;unfold bN;go_simp;(with_reducible refine(PN.out W hW).mono ?_);rintro e W' ⟨rfl,aZ⟩;first | (refine⟨?_,aa.trans hW aZ⟩;with_reducible rfl) | (subst aZ;refine⟨?_,hW⟩;with_reducible rfl))
   simp only[zA]
   refine kA rfl rfl ?_;simp only[zA]
   (first | refine eH rfl rfl ?_ | (refine cY rfl ?_));simp only[zA]
   intro W hW;have Lg:=fQ.out.after hW;have Dk:=zh (Ho.out.since hW);clear hW tx tz tA;cases z0
   ·cases z
    ·have ng:Hid (set++[(v:Int)]=(os.take (k+1)).foldl (bR n) []):=rc.out.symm
     go_wp2_with (at_builtin;refine kg rfl _ _ rfl rfl (Dk.out.since (ae _ (ab _))) W.heap.size (v:Int) rfl (by simp[go_sem]) ja.out (ae _ Lg) ?_;intro g cc w2 cy g_)
     have qe:=zh cy;have kQ:=zh g_;clear cy g_ Lg;go_wp2;go_roundw
     case rel=>exact⟨k+1,set++[(v:Int)],by omega,by go_num,ng.out,qe.out,kQ.out⟩
     case measure=>simp[intOf];omega
    ·have ng:Hid (set=(os.take (k+1)).foldl (bR n) []):=rc.out.symm;go_wp2;go_roundw
     case rel=>exact⟨k+1,set,by omega,by go_num,ng.out,Dk.out,Lg⟩
     case measure=>simp[intOf];omega
   ·cases z
    ·have ng:Hid (set=(os.take (k+1)).foldl (bR n) []):=rc.out.symm;go_wp2;go_roundw
     case rel=>exact⟨k+1,set,by omega,by go_num,ng.out,Dk.out,Lg⟩
     case measure=>simp[intOf];omega
    ·have ng:Hid (set=(os.take (k+1)).foldl (bR n) []):=rc.out.symm;go_wp2;go_roundw
     case rel=>exact⟨k+1,set,by omega,by go_num,ng.out,Dk.out,Lg⟩
     case measure=>simp[intOf];omega
  ·have Hr:Hid (set=yV n os):=by show _=_;rw[mH.out];unfold yV;rw[List.take_of_length_le (by omega)]
   obtain rfl:k=os.length:=by omega
   have BK:=lm u5 set wr w0.heap.size Ho.out (by omega);rw[Hr.out]at BK;have Lh:=zh BK;have Ht:=zh (fun j hj=>(World.ownsRow.lt Ho.out j hj).1)
   clear BK;go_wp2_with fail;refine Lh.out.mono ?_;rintro e w2 ⟨rfl,cy,xx⟩;have lv:=zh cy;have g7:Hid (aa w0 w2):=Below.grown dz xx (aa.below dz).size Ht.out;clear cy xx;go_wp2;go_ret;exact⟨_,rfl,lv.out.mono aY.out.size,aa.after aY.out g7.out⟩
def Li (B:Nat):Nat->Nat->List Nat
 | 0,_=>[]
 | n+1,k=>k%B::Li B n (k/B)
def Qh (ds:List Nat):List Int:=(ds.map fun (x:Nat)=>(x:Int)).reverse
def xS (B n k:Nat):List Int:=Qh (Li B n k)
def vX (most:Int):Nat->Option Int
 | 0=>some 1
 | n+1=>match vX most n with
  | none=>none
  | some c=>if 20000<=most\/20000<c*(most+1) then none else some (c*(most+1))
theorem aL.since {S:List Nat} {w0 W W':World} (h:aa w0 W) (ho:aL S W W') (hs:∀k∈S,w0.heap.size<=k):aa w0 W':=Below.trans h (ho.below _ h.below.size hs)
def Qi (n:am) (s most:Int):Bool:=aw n&&dW 1 5 s&&dW 0 999999999999 most
def vY (most:Int) (n:Nat):Int:=(vX most n).getD (-1)
def BL (n:am) (s:Int) (B:Nat):Nat->Nat
 | 0=>0
 | k+1=>BL n s B k+if (Bc n s (xS B n.ends.length k)).length=0 then 1 else 0
def dt (n:am) (s most:Int):Bool:=Qi n s most&&(vX most n.ends.length).isSome
def dv (n:am) (s most:Int):Int:=if dt n s most then (BL n s (most.toNat+1) (vY most n.ends.length).toNat:Int) else 0
def rQ (n:am) (s:Int) (B:Nat):Nat->Nat×List Int
 | 0=>(n.ends.length+1,[])
 | k+1=>if (Bc n s (xS B n.ends.length k)).length<(rQ n s B k).1 then ((Bc n s (xS B n.ends.length k)).length,xS B n.ends.length k) else rQ n s B k
def c_ (n:am) (s most:Int):Int:=if dt n s most then ((rQ n s (most.toNat+1) (vY most n.ends.length).toNat).1:Int) else 0
def dw (n:am) (s most:Int):List Int:=if dt n s most then (rQ n s (most.toNat+1) (vY most n.ends.length).toNat).2 else []
open Go.Maps (Keyed)
def kI (p:Nat):Lit:=.int .i64 (p:Int)
def lI (z:Int):DataW Unit:=.lit (.int .i64 z)
structure Ui (n:am) (k:Nat) (D:DataW Unit):Prop where
 map:Maps.IsMap D
 val:∀p:Nat,D.atKey (kI p) (lI 0)=lI (G5 n p k:Nat)
 keys:∀kl,Maps.has D kl=true->∃v,v<k/\kl=kI (gQ n v)
 all:∀v,v<k->Maps.has D (kI (gQ n v))=true
open Go.Maps (Keyed)
def Xr:Value->Option (DataW Unit×List MemPlace)
 | .slice none n c=>some (.slice [lI 0,lI n,lI c] [],[])
 | .slice (some ⟨b,0,none⟩) n c=>some (.slice [lI (b+1),lI n,lI c] [],[])
 | _=>none
def zD:DataW Unit:=.slice [lI 0,lI (0:Nat),lI (0:Nat)] []
structure Uj (n:am) (w:World) (B k kk:Nat) (D:DataW Unit) (U:Nat->Value):Prop where
 map:Maps.IsMap D
 val:∀p:Nat,Xr (U p)=some (D.atKey (kI p) zD,[])
 own:∀p:Nat,Own w B (U p) ((Bt n p k).map Int.ofNat)
 dis:∀(p q j:Nat),p≠q->(U p).ownBlock=some j->(U q).ownBlock≠some j
 keys:∀kl,Maps.has D kl=true->∃v,v<kk/\kl=kI (gQ n v)
 all:∀v,v<kk->Maps.has D (kI (gQ n v))=true
section
variable {ops : Array Oper} {rest : List Oper} {o : Oper} {a : Act} {Q : Exit → Act → World → Prop}
end
section
variable {P : Program} {ops : Array Oper}
theorem bD {S:World->Prop} {bV:Act->World->Prop} {o:Oper} {rest:List Oper} {A:Act} {W:World} {ob:Obj} {v:Value} (hw:Region.wanted o (yielded ops A.tmps)=true) (h:(execOp A.eval o).run P W=.ok (.value v) (W.alloc ob)) (hS:S (W.alloc ob))
  (hr:∀W',W'=W.alloc ob->S W'->aQ P ops S bV rest (A.put o.dst v) W'):aQ P ops S bV (o::rest) A W:=
 qO hw h hS (hr _ rfl hS)
end
structure Qj (n:am) (K:List (List Bool)) (kf:Nat->Nat->Bool):Prop where
 len:K.length=n.ends.length
 row:∀(v:Nat) (es:List (Int×Int)),n.ends[v]?=some es->∃row,K[v]?=some row/\row.length=es.length/\∀i,i<es.length->row[i]?=some (kf v i)
theorem eP (W:World) (x y:Value) (t:TypeId):(W.alloc (.cells #[x,y] t)).cell? ⟨W.heap.size,0,none⟩=some x/\(W.alloc (.cells #[x,y] t)).cell? ⟨W.heap.size,1,none⟩=some y:=⟨by simp,by simp⟩
theorem gS {w:World} {ops:Array Oper} {rest:List Oper} {o:Oper} {a:Act} {Q:Exit->Act->World->Prop} (gA:o.guard=none) (s x:Operand)
  (ho:o.op=.call { callee:=.builtin .append,args:=#[s,x],argTypes:=#[34,34] }) {base:Nat} {v:Value} {xs:List (Int×Int)} {T:List Nat} (hs:a.eval s=v) (h:co w base v xs T) (b:Nat) (y:Int×Int)
  (hx:a.eval x=.slice (some ⟨b,0,none⟩) 1 1) (hc:w.cell? ⟨b,0,none⟩=some (.int .i64 y.1)) (bS:w.cell? ⟨b,1,none⟩=some (.int .i64 y.2)) (hl:xs.length+1<=1000000) (lf:base<=w.heap.size)
  (k:∀g cap w',co w' base (.slice (some ⟨g,0,none⟩) (xs.length+1) cap) (xs++[y]) [g]->w.grownBy w' v.ownBlock->(v.ownBlock=some g\/g=w.heap.size)->wpList Tryz.prog ops Q rest (a.put o.dst (.slice (some ⟨g,0,none⟩) (xs.length+1) cap)) w'):wpList Tryz.prog ops Q (o::rest) a w:=by
 obtain⟨i0,hi,eS,cj,cX⟩:=info_parts oB
 refine wpList_append_lies w gA s x 34 ho base 36 i0 _ 2 16 Tryz.underlying34 hi eS cj cX rfl (by decide) v xs.length (xs.flatMap iF) hs h.1 ⟨b,0,none⟩ 1 1 [.int .i64 y.1,.int .i64 y.2] hx rfl
  (by intro j u hj;match j,hj with | 0,hj=>(simp at hj;subst hj;simpa[Addr.add]using hc) | 1,hj=>(simp at hj;subst hj;simpa[Addr.add]using bS) | j+2,hj=>simp at hj) (by simp[Value.oneCell']) (by omega) (by unfold maxLen;omega) (by omega) lf w.heap.size rfl ?_
 intro g cap w' q1 q2 q3 q4;have hq:w'.ownsRow base 36 2 (.slice (some ⟨g,0,none⟩) (xs.length+1) cap) (xs++[y]).length ((xs++[y]).flatMap iF):=by simpa[iF]using q1
 exact k g cap w' ⟨hq,by simp[Value.ownBlock]⟩ q2 q3
def sn (f:Nat->Nat):Nat->Nat->Nat
 | 0,x=>x
 | k+1,x=>sn f k (f x)
theorem rR (f:Nat->Nat):∀(a b x:Nat),sn f (a+b) x=sn f b (sn f a x)
 | 0,b,x=>by simp[sn]
 | a+1,b,x=>by rw[Nat.succ_add];exact rR f a b (f x)
def lg (s:Nat):Nat:=s*6364136223846793005+1442695040888963407
theorem Lj (P u v x:Nat):(x*(1+4*P*u)+P*(1+2*v))*(1+4*P*u)+P*(1+2*v)=x*(1+4*(P+P)*(u+2*P*u*u))+(P+P)*(1+2*(v+P*u*(1+2*v))):=by grind
theorem BM:∀k:Nat,∃u v:Nat,∀x,sn lg (2^k) x=x*(1+4*2^k*u)+2^k*(1+2*v)
 | 0=>⟨1591034055961698251,721347520444481703,fun x=>by simp[sn,lg]⟩
 | k+1=>by
  obtain⟨u,v,h⟩:=BM k;refine⟨u+2*2^k*u*u,v+2^k*u*(1+2*v),fun x=>?_⟩
  have e:2^(k+1)=2^k+2^k:=by rw[Nat.pow_succ];omega
  rw[e,rR,h,h];exact Lj _ _ _ _
theorem D5 (P u v z:Nat):(z*(1+4*P*u)+P*(1+2*v))%(2*P)=(z+P)%(2*P):=by
 have e:z*(1+4*P*u)+P*(1+2*v)=z+P+2*P*(2*z*u+v):=by grind
 rw[e,Nat.add_mul_mod_self_left]
theorem D6 (P a b:Nat) (hP:0<P) (h:a%P=b%P):a%(2*P)=b%(2*P)\/(a+P)%(2*P)=b%(2*P):=by
 have e1:a=P*(a/P)+b%P:=by rw[<- h];exact(Nat.div_add_mod a P).symm
 have e2:b=P*(b/P)+b%P:=(Nat.div_add_mod b P).symm;have lt:b%P<P:=Nat.mod_lt _ hP
 generalize b%P=r at *
 generalize a/P=q1 at *
 generalize b/P=q2 at *
 subst e1
 have mM:∀q:Nat,(P*q+r)%(2*P)=P*(q%2)+r:=fun q=>by
  have e3:P*q+r=P*(q%2)+r+2*P*(q/2):=by
   have h9:P*q=P*(2*(q/2)+q%2):=by rw[Nat.div_add_mod]
   rw[h9]
   grind
  rw[e3,Nat.add_mul_mod_self_left];apply Nat.mod_eq_of_lt
  rcases Nat.mod_two_eq_zero_or_one q with h0 | h0 <;> rw[h0] <;> omega
 have e4:P*q1+r+P=P*(q1+1)+r:=by grind
 rw[e2,e4,mM,mM,mM]
 rcases Nat.mod_two_eq_zero_or_one q1 with h0 | h0 <;> rcases Nat.mod_two_eq_zero_or_one q2 with h1 | h1
 ·exact .inl (by rw[h0,h1])
 ·exact .inr (by rw[h1,show(q1+1)%2=1 by omega])
 ·exact .inr (by rw[h1,show(q1+1)%2=0 by omega])
 ·exact .inl (by rw[h0,h1])
theorem tB:∀(k x y:Nat),∃t,t<2^k/\sn lg t x%2^k=y%2^k
 | 0,x,y=>⟨0,by simp,by simp[Nat.mod_one]⟩
 | k+1,x,y=>by
  obtain⟨t,h1,h2⟩:=tB k x y;obtain⟨u,v,h⟩:=BM k
  have e:2^(k+1)=2*2^k:=by rw[Nat.pow_succ];omega
  have hP:0<2^k:=Nat.pow_pos (by omega);have h3:=h (sn lg t x);rw[<- rR]at h3;rw[e];rcases D6 _ _ _ hP h2 with hc | hc
  ·exact⟨t,by omega,hc⟩
  ·exact⟨t+2^k,by omega,by rw[h3,D5 _ _ _ _];exact hc⟩
def byteOf (s:Nat):Nat:=s/1099511627776%256
theorem vZ (x b:Nat) (hb:b<256):∃t,t<281474976710656/\byteOf (sn lg t x)=b:=by
 obtain⟨t,h1,h2⟩:=tB 48 x (b*1099511627776);refine⟨t,by simpa using h1,?_⟩
 unfold byteOf
 generalize sn lg t x=z at *
 simp only[Nat.reducePow]at h2;omega
def nx (s b:Nat):Nat:=(s*6364136223846793005+b+1442695040888963407)%18446744073709551616
theorem pp (f:Nat->Nat) (k x:Nat):sn f (k+1) x=sn f k (f x):=rfl
theorem Lk (s:Nat):nx (s%18446744073709551616) 0=lg s%18446744073709551616:=by
 unfold nx lg
 omega
theorem BO:∀(t s:Nat),sn (fun s=>nx s 0) t (s%18446744073709551616)=sn lg t s%18446744073709551616
 | 0,s=>rfl
 | t+1,s=>by
  rw[pp,pp,<- BO t (lg s),Lk]
theorem BP (z:Nat):byteOf (z%18446744073709551616)=byteOf z:=by unfold byteOf;omega
theorem BQ (s b:Nat) (hs:s<18446744073709551616) (hb:b<256):∃t,t<281474976710656/\byteOf (sn (fun s=>nx s 0) t s)=b:=by
 obtain⟨t,h1,h2⟩:=vZ s b hb
 refine⟨t,h1,?_⟩
 have:=BO t s
 rw[Nat.mod_eq_of_lt hs]at this;rw[this,BP]
 exact h2
theorem jX {w:World} {b:Nat} {vs:Array Value} (h:dp w b vs) (i:Nat) (u:Value):dp (w.setCell ⟨b,i,none⟩ u) b (vs.setIfInBounds i u):=by
 obtain⟨r,h⟩:=h;refine⟨r,?_⟩;simp[World.setCell,Array.getElem?_modify,h]
structure CB (cb B:Nat) (w w':World):Prop where
 os:w'.os=w.os
 tape:w'.tape=w.tape
 output:w'.output=w.output
 size:w.heap.size<=w'.heap.size
 block:∀k,k<B->k≠cb->w'.heap[k]?=w.heap[k]?
theorem CB.refl (cb B:Nat) (w:World):CB cb B w w:=⟨rfl,rfl,rfl,Nat.le_refl _,fun _ _ _=>rfl⟩
theorem CB.trans {cb B:Nat} {a b c:World} (h:CB cb B a b) (k:CB cb B b c):CB cb B a c:=
 ⟨k.os.trans h.os,k.tape.trans h.tape,k.output.trans h.output,Nat.le_trans h.size k.size,fun i hi hn=>(k.block i hi hn).trans (h.block i hi hn)⟩
theorem CB.mono {cb B B':Nat} {w w':World} (h:CB cb B w w') (hB:B'<=B):CB cb B' w w':=⟨h.os,h.tape,h.output,h.size,fun k hk hn=>h.block k (by omega) hn⟩
theorem CB.of {cb B:Nat} {w w':World} (h:Below B w w'):CB cb B w w':=⟨h.os,h.tape,h.output,h.size,fun k hk _=>h.block k hk⟩
theorem CB.below {cb B:Nat} {w w':World} (h:CB cb B w w') (hB:B<=cb):Below B w w':=⟨h.os,h.tape,h.output,h.size,fun k hk=>h.block k hk (by omega)⟩
theorem CB.setCell {cb B:Nat} {a w:World} (h:CB cb B a w) {p:Addr} (hp:B<=p.block\/p.block=cb) (u:Value):CB cb B a (w.setCell p u):=
 h.trans ⟨rfl,rfl,rfl,by simp[World.setCell],fun k hk hn=>Below.heap_setCell _ _ _ _ (by omega)⟩
theorem CB.cell {cb B:Nat} {w w':World} (h:CB cb B w w') {p:Addr} (hp:p.block<B) (hn:p.block≠cb):w'.cell? p=w.cell? p:=World.cell?_of_block (w:=w) (h.block p.block hp hn)
theorem xT {w:World} {p:Addr} {v:Value} (h:w.cell? p=some v):p.block<w.heap.size:=by
 rcases Nat.lt_or_ge p.block w.heap.size with hl | hl
 ·exact hl
 ·exfalso
  have e:w.heap[p.block]?=none:=Array.getElem?_eq_none hl;simp[World.cell?,e]at h
def fR (cb:Nat) (w0 W:World):Prop:=CB cb w0.heap.size w0 W
theorem fR.refl (cb:Nat) (w:World):fR cb w w:=CB.refl _ _ _
theorem fR.trans {cb:Nat} {w0 W W':World} (h:fR cb w0 W) (h':CB cb W.heap.size W W'):fR cb w0 W':=CB.trans h (h'.mono h.size)
theorem fR.after {cb:Nat} {w0 W W':World} (h:fR cb w0 W) (h':aa W W'):fR cb w0 W':=h.trans (CB.of h')
theorem ap {cb:Nat} {w0:World} {p:Addr} {v:Value} (h:w0.cell? p=some v) (hn:p.block≠cb):∀W,fR cb w0 W->W.cell? p=some v:=fun W hW=>by
 rw[CB.cell hW ?_ hn]
 ·exact h
 ·exact xT h
def rS (w:World) (cb:Nat) (A:Option Addr) (L:Nat):Prop:=∀k,k<L->∃b off v,A=some ⟨b,off,none⟩/\b<cb/\w.cell? ⟨b,off+k,none⟩=some (.int .u8 v)/\0<=v/\v<256
theorem rS.aab {w w':World} {cb:Nat} {A:Option Addr} {L:Nat} (h:rS w cb A L) (hb:∀k,k<cb->w'.heap[k]?=w.heap[k]?):rS w' cb A L:=fun k hk=>by
 obtain⟨b,off,v,hA,aH,hc,h1,h2⟩:=h k hk
 exact⟨b,off,v,hA,aH,by rw[World.cell?_of_block (w:=w) (hb b aH)];exact hc,h1,h2⟩
structure so (w:World) (cb:Nat) (A:Option Addr) (L c p s:Nat):Prop where
 cells:∃r,w.heap[cb]?=some (.cells #[.slice A L c,.int .i64 p,.int .u64 s] r)
 code:rS w cb A L
 len:L<=1048576
 cap:L<=c
 aaR:s<18446744073709551616
theorem so.aab {w w':World} {cb:Nat} {A:Option Addr} {L c p s:Nat} (h:so w cb A L c p s) (hb:∀k,k<cb+1->w'.heap[k]?=w.heap[k]?):so w' cb A L c p s:=by
 obtain⟨⟨r,h1⟩,h2,h3,h4,h5⟩:=h;exact⟨⟨r,(hb cb (by omega)).trans h1⟩,h2.aab (fun k hk=>hb k (by omega)),h3,h4,h5⟩
theorem so.lt {w:World} {cb:Nat} {A:Option Addr} {L c p s:Nat} (h:so w cb A L c p s):cb<w.heap.size:=by
 obtain⟨⟨r,h1⟩,_⟩:=h;exact(Array.getElem?_eq_some_iff.1 h1).1
theorem so.since {w w':World} {cb:Nat} {A:Option Addr} {L c p s:Nat} (h:so w cb A L c p s) (hs:aa w w'):so w' cb A L c p s:=h.aab fun k hk=>hs.block k (by have:=h.lt;omega)
theorem so.cellsOf {w:World} {cb:Nat} {A:Option Addr} {L c p s:Nat} (h:so w cb A L c p s):w.cell? ⟨cb,0,none⟩=some (.slice A L c)/\w.cell? ⟨cb,1,none⟩=some (.int .i64 p)/\w.cell? ⟨cb,2,none⟩=some (.int .u64 s):=by
 obtain⟨⟨r,h1⟩,_⟩:=h;have hb:dp w cb #[.slice A L c,.int .i64 p,.int .u64 s]:=⟨r,h1⟩;exact⟨(hb.cell 0 _ rfl).1,(hb.cell 1 _ rfl).1,(hb.cell 2 _ rfl).1⟩
end Go.Proofs.YtgjggeapebbcbaaGreat
