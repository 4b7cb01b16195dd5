/- Parts of the proof: walks of functions and plain laws. -/
import Derived.Test.YtnioemnkfojmkaaGreatP15
set_option maxRecDepth 100000
set_option maxHeartbeats 16000000
namespace Go.Proofs.YtnioemnkfojmkaaGreat
open Go Go.RowKit
theorem Bq {w:World} {g i:Nat} {v:Value} (h:w.cell? ⟨g,i,none⟩=some v) (k:Nat):(w.setCell ⟨g,i,none⟩ v).heap[k]?=w.heap[k]?:=by
 by_cases e:k=g
 ·subst e
  unfold World.cell? at h
  cases hb:w.heap[k]? with
  | none=>rw[show w.heap[(⟨k,i,none⟩:Addr).block]?=none from hb]at h;simp at h
  | some o=>
   rw[show w.heap[(⟨k,i,none⟩:Addr).block]?=some o from hb]at h
   cases o with
   | cells cs t fr=>
    have hc:cs[i]?=some v:=by simpa using h
    have he:cs.setIfInBounds i v=cs:=by
     apply Array.ext_getElem?
     intro j;rw[Array.getElem?_setIfInBounds]
     by_cases hj:i=j
     ·subst hj;rw[if_pos rfl,if_pos (Zas.1 hc).1,hc]
     ·rw[if_neg hj]
    simp[World.setCell,Zbf,hb,he]
   | _=>simp at h
 ·exact Zan _ _ _ _ e
theorem WM {w:World} {g i:Nat} {v:Value} (h:w.cell? ⟨g,i,none⟩=some v) (p:Addr) (u:Value) (k:Nat):((w.setCell ⟨g,i,none⟩ v).setCell p u).heap[k]?=(w.setCell p u).heap[k]?:=by
 by_cases e:k=p.block
 ·have h1:=Bq h p.block;subst e
  rw[show((w.setCell ⟨g,i,none⟩ v).setCell p u).heap[p.block]?=_ from by unfold World.setCell;exact Zbf ..]
  rw[show(w.setCell p u).heap[p.block]?=_ from by unfold World.setCell;exact Zbf ..]
  rw[if_pos rfl,if_pos rfl];exact congrArg _ h1
 ·rw[Zan _ _ _ _ e,Zan _ _ _ _ e,Bq h]
theorem SX {w:World} {g i j:Nat} (PP:i≠j) (u:Value):(w.setCell ⟨g,i,none⟩ u).cell? ⟨g,j,none⟩=w.cell? ⟨g,j,none⟩:=by
 unfold World.cell? World.setCell
 simp only[Zbf,if_true]
 cases w.heap[g]? with
 | none=>rfl
 | some o=>cases o <;> simp[PP]
theorem aw.setPort {w:World} {base g c n:Nat} {vi vn:Value} {N:ao} {S:List Nat} (h:aw w base (.slice (some ⟨g,0,none⟩) n c) vi vn N S) {k:Nat} {es:List (Int×Int)} (hx:N.ends[k]?=some es) (hj:0<es.length):
  ∃gr cr,w.cell? ⟨g,k,none⟩=some (.slice (some ⟨gr,0,none⟩) es.length cr)/\gr∈S/\w.frozen? ⟨gr,0,none⟩=false/\w.frozen? ⟨gr,1,none⟩=false/\(∃z,w.cell? ⟨gr,0,none⟩=some z)/\(∃z,w.cell? ⟨gr,1,none⟩=some z) /\
   (∀x:Int,∃y,aw (w.setCell ⟨gr,0,none⟩ (.int .i64 x)) base (.slice (some ⟨g,0,none⟩) n c) vi vn { N with ends:=N.ends.set k (es.set 0 y) } S) /\
   (∀x:Int,∃y,aw (w.setCell ⟨gr,1,none⟩ (.int .i64 x)) base (.slice (some ⟨g,0,none⟩) n c) vi vn { N with ends:=N.ends.set k (es.set 0 y) } S):=by
 obtain⟨gr,cr,h1,-,-,-,h2,-,⟨f0,f1⟩,c0,c1,c_⟩:=h.ag7 hx hj;simp only[Nat.zero_mul,Zba]at f0 f1 c0 c1 c_;obtain⟨e,he⟩:=au es 0 hj;obtain⟨u,T,hu,-,hR,-,-,-⟩:=h.ag0 hx;rw[h1]at hu;have hu:=Zbx hu;subst hu;obtain⟨d0,d1,-⟩:=eE.cells hR he;simp only[Nat.zero_mul,Zba]at d0 d1;refine⟨gr,cr,h1,h2,f0,f1,c0,c1,fun x=>⟨(x,e.2),?_⟩,fun x=>⟨(e.1,x),?_⟩⟩
 ·refine(c_ (x,e.2)).agV (fun q _=>?_)
  exact(Bq (show(w.setCell ⟨gr,0,none⟩ (.int .i64 x)).cell? ⟨gr,1,none⟩=some (.int .i64 e.2)by rw[SX zO];exact d1) q).symm
 ·exact(c_ (e.1,x)).agV (fun q _=>(WM d0 _ _ q).symm)
structure Br (cb pb:Nat) (A:Option Addr) (L c P:Nat) (w W:World) (ve vi vn:Value) (N:ao) (S:List Nat):Prop where
 mb:Mb cb w.heap.size pb A L c P w W ve vi vn N S
 rb:bD W (pb+1) (.slice none 0 0) (.slice none 0 0) (.slice none 0 0)
 rn:pb+1∉S
 pe:pb=w.heap.size
 cbp:cb<pb
section
variable {cb pb : Nat} {A : Option Addr} {L c P : Nat} {w W : World} {ve vi vn : Value} {N : ao} {S : List Nat}
theorem Br.sz (h:Br cb pb A L c P w W ve vi vn N S):w.heap.size<=W.heap.size:=zY h.rb.lt h.pe
theorem Br.seen {W':World} {P':Nat} (h:Br cb pb A L c P w W ve vi vn N S) (hs:bO cb W W') (sZ:dj W' cb A L c P'):Br cb pb A L c P' w W' ve vi vn N S:=
 ⟨h.mb.seen hs sZ (zY h.pe h.cbp) (zX h.pe) h.sz,(hs.block _ h.rb.lt (zX h.cbp)).trans h.rb,h.rn,h.pe,h.cbp⟩
theorem Br.since {W':World} (h:Br cb pb A L c P w W ve vi vn N S) (hs:ab W W'):Br cb pb A L c P w W' ve vi vn N S:=h.seen (CB.of hs) (h.mb.cur.since hs)
theorem Br.up {P':Nat} (h:Br cb pb A L c P w W ve vi vn N S) (hP:P<=P'):Br cb pb A L c P' w W ve vi vn N S:=⟨⟨h.mb.own,h.mb.box,h.mb.nb,h.mb.cur.mono hP,h.mb.far⟩,h.rb,h.rn,h.pe,h.cbp⟩
theorem Br.only {W':World} {N':ao} {S':List Nat} {ve' vi' WG:Value} (h:Br cb pb A L c P w W ve vi vn N S) (ho:aw W' w.heap.size ve' vi' WG N' S') (hS:∀j∈S',j∈S\/W.heap.size<=j) (eB:aV S W W'):
  bB W' pb ve vi vn/\pb∉S'/\pb+1∉S'/\bD W' (pb+1) (.slice none 0 0) (.slice none 0 0) (.slice none 0 0)/\dj W' cb A L c P/\CB cb w.heap.size w W':=by
 have hp:=h.pe;have hc:=h.cbp;have h1:=h.rb.lt;have lV:Below w.heap.size W W':=eB.below _ h.sz (fun k hk=>(h.mb.own.range k hk).1)
 refine⟨h.mb.box.blk (eB.block _ h.mb.box.lt h.mb.nb),fun hj=>?_,fun hj=>?_,(eB.block _ h1 h.rn).trans h.rb,h.mb.cur.agU (fun k hk=>lV.block k zO),h.mb.far.trans (CB.of lV)⟩
 ·rcases hS _ hj with h2 | h2
  ·exact h.mb.nb h2
  ·omega
 ·rcases hS _ hj with h2 | h2
  ·exact h.rn h2
  ·omega
theorem Br.own {W':World} {N':ao} {S':List Nat} (h:Br cb pb A L c P w W ve vi vn N S) (ho:aw W' w.heap.size ve vi vn N' S') (hS:∀j∈S',j∈S\/W.heap.size<=j) (eB:aV S W W'):Br cb pb A L c P w W' ve vi vn N' S':=by
 obtain⟨a1,a2,a3,a4,a5,a6⟩:=h.only ho hS eB;exact⟨⟨ho,a1,a2,a5,a6⟩,a4,a3,h.pe,h.cbp⟩
theorem Br.ahb {W':World} {N':ao} {S':List Nat} {v':Value} (h:Br cb pb A L c P w W ve vi vn N S) (ho:aw W' w.heap.size v' vi vn N' S') (hS:∀j∈S',j∈S\/W.heap.size<=j) (eB:aV S W W'):
  bB W' pb ve vi vn/\Br cb pb A L c P w (W'.setCell ⟨pb,0,none⟩ v') v' vi vn N' S':=by
 obtain⟨a1,a2,a3,a4,a5,a6⟩:=h.only ho hS eB;have hp:=h.pe;have hc:=h.cbp
 refine⟨a1,⟨⟨ho.agV (fun k hk=>Zan _ _ _ _ (fun e=>a2 (by have e':k=pb:=e;exact e' ▸ hk))),a1.ahb,a2,a5.agU (fun k hk=>Zan _ _ _ _ (by show k≠pb;omega)),a6.setCell (p:=⟨pb,0,none⟩) (.inl (by show _<=pb;omega)) _⟩,a4.other (by show pb+1≠pb;omega),a3,h.pe,h.cbp⟩⟩
theorem Br.ahh {W':World} {N':ao} {S':List Nat} {v':Value} (h:Br cb pb A L c P w W ve vi vn N S) (ho:aw W' w.heap.size ve v' vn N' S') (hS:∀j∈S',j∈S\/W.heap.size<=j) (eB:aV S W W'):
  bB W' pb ve vi vn/\Br cb pb A L c P w (W'.setCell ⟨pb,1,none⟩ v') ve v' vn N' S':=by
 obtain⟨a1,a2,a3,a4,a5,a6⟩:=h.only ho hS eB;have hp:=h.pe;have hc:=h.cbp
 refine⟨a1,⟨⟨ho.agV (fun k hk=>Zan _ _ _ _ (fun e=>a2 (by have e':k=pb:=e;exact e' ▸ hk))),a1.ahh,a2,a5.agU (fun k hk=>Zan _ _ _ _ (by show k≠pb;omega)),a6.setCell (p:=⟨pb,1,none⟩) (.inl (by show _<=pb;omega)) _⟩,a4.other (by show pb+1≠pb;omega),a3,h.pe,h.cbp⟩⟩
theorem Br.ahe {W':World} {N':ao} {S':List Nat} {v':Value} (h:Br cb pb A L c P w W ve vi vn N S) (ho:aw W' w.heap.size ve vi v' N' S') (hS:∀j∈S',j∈S\/W.heap.size<=j) (eB:aV S W W'):
  bB W' pb ve vi vn/\Br cb pb A L c P w (W'.setCell ⟨pb,2,none⟩ v') ve vi v' N' S':=by
 obtain⟨a1,a2,a3,a4,a5,a6⟩:=h.only ho hS eB;have hp:=h.pe;have hc:=h.cbp
 refine⟨a1,⟨⟨ho.agV (fun k hk=>Zan _ _ _ _ (fun e=>a2 (by have e':k=pb:=e;exact e' ▸ hk))),a1.ahe,a2,a5.agU (fun k hk=>Zan _ _ _ _ (by show k≠pb;omega)),a6.setCell (p:=⟨pb,2,none⟩) (.inl (by show _<=pb;omega)) _⟩,a4.other (by show pb+1≠pb;omega),a3,h.pe,h.cbp⟩⟩
theorem Br.ahf {W':World} {T:List Nat} {v':Value} {ids':List Int} (h:Br cb pb A L c P w W ve vi vn N S) (ho:mx W' w.heap.size v' ids' T) (eB:aV vi.ownBlock.toList W W') (hT:∀j∈T,j∈vi.ownBlock.toList\/W.heap.size<=j):
  bB W' pb ve vi vn/\∃S',Br cb pb A L c P w (W'.setCell ⟨pb,1,none⟩ v') ve v' vn { N with ids:=ids' } S':=by
 obtain⟨S',OW,EV⟩:=h.mb.own.ahd ho eB hT;obtain⟨b1,b2⟩:=h.ahh OW EV (eB.mono (h.mb.ag6.2));exact⟨b1,S',b2⟩
theorem Br.ahl {W':World} {T:List Nat} {v':Value} {Yx:List Int} (h:Br cb pb A L c P w W ve vi vn N S) (ho:mx W' w.heap.size v' Yx T) (eB:aV vn.ownBlock.toList W W') (hT:∀j∈T,j∈vn.ownBlock.toList\/W.heap.size<=j):
  bB W' pb ve vi vn/\∃S',Br cb pb A L c P w (W'.setCell ⟨pb,2,none⟩ v') ve vi v' { N with agT:=Yx } S':=by
 obtain⟨S',OW,EV⟩:=h.mb.own.ahi ho eB hT;obtain⟨b1,b2⟩:=h.ahe OW EV (eB.mono (h.mb.ahg.2));exact⟨b1,S',b2⟩
theorem Br.assign {W1:World} {P':Nat} {a b d:Value} {N':ao} {S':List Nat} (h:Br cb pb A L c P w W ve vi vn N S) (hs:bO cb W W1) (sZ:dj W1 cb A L c P') (ho:aw W1 W.heap.size a b d N' S'):
  Br cb pb A L c P' w (agX W1 pb a b d) a b d N' S':=by
 have hp:=h.pe;have hc:=h.cbp;have h1:=h.rb.lt;refine⟨h.mb.assign hs sZ ho zO zO zO h.sz,(dC _ _ _ _ _ zO).trans ((hs.block _ h.rb.lt zO).trans h.rb),fun hj=>?_,h.pe,h.cbp⟩
 have:=(ho.range _ hj).1
 omega
theorem Br.ret (h:Br cb pb A L c P w W ve vi vn N S):aw (agX W (pb+1) ve vi vn) w.heap.size ve vi vn N S/\dj (agX W (pb+1) ve vi vn) cb A L c P/\CB cb w.heap.size w (agX W (pb+1) ve vi vn):=h.mb.ret h.rn (zX h.pe) (zY h.pe h.cbp)
end
structure Bd (N:ao):Prop where
 ends:N.ends.length<=100
 row:∀(k:Nat) (es:List (Int×Int)),N.ends[k]?=some es->es.length<=200
 ids:N.ids.length<=200
 agT:N.agT.length<=200
theorem Bd.small {n:ao} (h:Bd n):tO n:=by
 refine⟨zX h.ends,fun k es he=>zX (h.row k es he),?_⟩
 have h1:tg n.ends<=2*200*n.ends.length:=Sv (fun es he=>by
  obtain⟨k,hk⟩:=List.getElem?_of_mem he
  exact h.row k es hk)
 have h2:=MD n.ends
 have h3:2*200*n.ends.length<=2*200*100:=Nat.mul_le_mul zO (zX h.ends)
 have:=h.ends
 have:=h.ids
 have:=h.agT
 unfold qm;omega
theorem Gd.bd {R M:Nat} {n:ao} (h:Gd R M n) (hR:R<=200) (hM:M<=100):Bd n:=
 ⟨zX h.ends,fun k es he=>zX (h.row k es he),zX h.ids,zY h.agT h.ends⟩
theorem Bd.setRow {n:ao} (h:Bd n) (k:Nat) {es:List (Int×Int)} (he:es.length<=200):Bd { n with ends:=n.ends.set k es }:=by
 refine⟨by simp;exact h.ends,fun j fs hf=>?_,h.ids,h.agT⟩
 rw[Zci]at hf
 split at hf
 ·split at hf
  ·cases hf;exact he
  ·cases hf
 ·exact h.row j fs hf
structure agv (B:Nat) (W:World) (u v:Value) (xs ys:List Int):Prop where
 a:Own W B u xs
 b:Own W B v ys
 ne:∀j,u.ownBlock=some j->v.ownBlock≠some j
structure af3 (B:Nat) (W:World) (u v:Value) (xs ys:List (List Int)):Prop where
 ex:∃S T,bu W B u xs S/\bu W B v ys T/\∀j∈S,j∉T
theorem O0 {p:aq} {n:ao} (hp:bV p=true) (hn:ar n=true) {most:Int} (hm:0<=most/\most<=200000):qG p n (aX n) most=true:=by
 have hl:=(aE hp).1;unfold qG;rw[hp,hn,aB.2 hm,Bool.and_true,Bool.true_and,Bool.true_and,Mp];obtain⟨h1,h2⟩:=aN n;rw[Zai,Zai];refine⟨decide_eq_true h1,?_,?_⟩
 ·unfold jd;rw[Zbh];intro v _;exact decide_eq_true (h2 v)
 ·unfold GP;rw[Zbh];intro v hv;unfold lX;rw[Zbh];intro x hx;obtain⟨i,hi⟩:=List.getElem?_of_mem hx;have h3:ax (aX n) v i:=ah hi;have h4:=fP h3;unfold ak at h4;rw[ag hi]at h4;rw[h4];exact aB.2 ⟨zO,zO⟩
def cS (W:World) (B:Nat) (T:Nat->Prop) (v:Value) (l:List (List Int)):Prop:=
 ∃vs:List Value,W.ownsRow B 28 1 v l.length vs/\vs.length=l.length/\(∀j,v.ownBlock=some j->T j)/\∀(k:Nat) (u:Value) (x:List Int),vs[k]?=some u->l[k]?=some x->Own W B u x/\∀j,u.ownBlock=some j->v.ownBlock≠some j/\T j
theorem mm (W:World) (B:Nat) (T:Nat->Prop):cS W B T (.slice none 0 0) []:=⟨[],World.ownsRow_nil W B _ _,rfl,fun j h=>by simp[Value.ownBlock]at h,fun k u x h=>by simp at h⟩
theorem cS.since {W W':World} {B:Nat} {T:Nat->Prop} {v:Value} {l:List (List Int)} (h:cS W B T v l) (hs:ab W W'):cS W' B T v l:=by
 obtain⟨vs,h1,h2,h4,h3⟩:=h;exact⟨vs,aD h1 fun j hj=>hs.below.block j (Zad h1 j (by simpa using hj)).2,h2,h4,fun k u x hu hx=>⟨(h3 k u x hu hx).1.since hs,(h3 k u x hu hx).2⟩⟩
theorem cS.agU {W W':World} {B:Nat} {T:Nat->Prop} {v:Value} {l:List (List Int)} (h:cS W B T v l) (hs:Below W.heap.size W W'):cS W' B T v l:=h.since hs
theorem cS.mono {W:World} {B B':Nat} {T T':Nat->Prop} {v:Value} {l:List (List Int)} (h:cS W B T v l) (hb:B'<=B) (hT:∀j,T j->T' j):cS W B' T' v l:=by
 obtain⟨vs,h1,h2,h4,h3⟩:=h;exact⟨vs,gW h1 hb,h2,fun j hj=>hT j (h4 j hj),fun k u x hu hx=>⟨Own.mono (h3 k u x hu hx).1 hb,fun j hj=>⟨((h3 k u x hu hx).2 j hj).1,hT j ((h3 k u x hu hx).2 j hj).2⟩⟩⟩
theorem cS.agV {W W':World} {B:Nat} {T:Nat->Prop} {v:Value} {l:List (List Int)} (h:cS W B T v l) (hk:∀j,T j->B<=j->j<W.heap.size->W'.heap[j]?=W.heap[j]?):cS W' B T v l:=by
 obtain⟨vs,h1,h2,h4,h3⟩:=h;refine⟨vs,aD h1 fun j hj=>?_,h2,h4,fun k u x hu hx=>⟨?_,(h3 k u x hu hx).2⟩⟩
 ·have oC:v.ownBlock=some j:=by simpa using hj
  obtain⟨a,b⟩:=Zad h1 j oC;exact hk j (h4 j oC) a b
 ·have h5:=(h3 k u x hu hx).1
  exact aD h5 fun j hj=>by
   have oC:u.ownBlock=some j:=by simpa using hj
   obtain⟨a,b⟩:=Zad h5 j oC;exact hk j ((h3 k u x hu hx).2 j oC).2 a b
theorem cS.bound {W:World} {B:Nat} {T:Nat->Prop} {v:Value} {l:List (List Int)} (h:cS W B T v l):cS W B (fun j=>T j/\B<=j/\j<W.heap.size) v l:=by
 obtain⟨vs,h1,h2,h4,h3⟩:=h;exact⟨vs,h1,h2,fun j hj=>⟨h4 j hj,Zad h1 j hj⟩,fun k u x hu hx=>⟨(h3 k u x hu hx).1,fun j hj=>⟨((h3 k u x hu hx).2 j hj).1,((h3 k u x hu hx).2 j hj).2,Zad (h3 k u x hu hx).1 j hj⟩⟩⟩
theorem cS.form {W:World} {B:Nat} {T:Nat->Prop} {v:Value} {l:List (List Int)} (h:cS W B T v l):∃A c,v=.slice A l.length c/\l.length<=c/\c<=maxLen:=by
 obtain⟨vs,h1,h2,h4,h3⟩:=h;rcases cj h1 with⟨rfl,h0⟩ | ⟨g,c,rfl,hb,hg,hc,hm⟩
 ·exact⟨none,0,by rw[h0],zO,Zac _⟩
 ·exact⟨_,c,rfl,hc,hm⟩
theorem cS.read {W:World} {B:Nat} {T:Nat->Prop} {v:Value} {l:List (List Int)} (h:cS W B T v l):bS W v l:=by
 obtain⟨vs,h1,h2,h4,h3⟩:=h;rcases cj h1 with⟨rfl,h0⟩ | ⟨g,c,rfl,hb,hg,hc,hm⟩
 ·obtain rfl:l=[]:=Zae h0
  exact⟨none,0,rfl,Zaj _,Zac _,fun k x hk=>by simp at hk⟩
 ·refine⟨_,c,rfl,hc,hm,fun k x hk=>?_⟩
  have aA:=ah hk;obtain⟨u,hu⟩:=au vs k zO
  exact⟨g,0,u,rfl,by rw[Zba,h1.cellAt (cap:=c) _ zO];exact hu,(h3 k u x hu hk).1.ints⟩
theorem cS.lt {W:World} {B:Nat} {T:Nat->Prop} {v:Value} {l:List (List Int)} (h:cS W B T v l) {j:Nat} (hj:v.ownBlock=some j):B<=j/\j<W.heap.size:=by
 obtain⟨vs,h1,-⟩:=h;exact Zad h1 j hj
def yb (W:World) (B:Nat) (T:Nat->Prop) (v u:Value) (y:List Int):Prop:=Own W B u y/\∀j,u.ownBlock=some j->v.ownBlock≠some j/\T j
theorem D6 {w:World} {ops:Array Oper} {rest:List Oper} {o:Oper} {a:Act} {Q:Exit->Act->World->Prop} (gT:o.guard=none) (s x:Operand)
  (ho:o.op=.call { callee:=.builtin .append,args:=#[s,x],argTypes:=#[24,24] }) {B:Nat} {T:Nat->Prop} {v:Value} {l:List (List Int)} (hs:a.eval s=v) (h:cS w B T v l)
  (b off c:Nat) (us:List Value) (ys:List (List Int)) (hx:a.eval x=.slice (some ⟨b,off,none⟩) ys.length c) (P8:us.length=ys.length) (hc:∀k u,us[k]?=some u->w.cell? ⟨b,off+k,none⟩=some u)
  (hr:∀(k:Nat) (u:Value) (y:List Int),us[k]?=some u->ys[k]?=some y->yb w B T v u y) (hy:0<ys.length) (hl:l.length+ys.length<=1000000) (Aa:B<=w.heap.size) (hT:∀j,w.heap.size<=j->T j)
  (k:∀g cap w',cS w' B T (.slice (some ⟨g,0,none⟩) (l.length+ys.length) cap) (l++ys)->w.grownBy w' v.ownBlock->(v.ownBlock=some g\/g=w.heap.size)->Below B w w'->wpList Tryz.prog ops Q rest (a.put o.dst (.slice (some ⟨g,0,none⟩) (l.length+ys.length) cap)) w'):wpList Tryz.prog ops Q (o::rest) a w:=by
 obtain⟨i0,hi,e_,dP,dY⟩:=info_parts ER;obtain⟨vs,r1,r2,r4,r3⟩:=h
 refine wpList_append_lies w gT s x 24 ho B 28 i0 _ 1 24 Tryz.underlying24 hi e_ dP dY rfl (by decide) v l.length vs hs r1 ⟨b,off,none⟩ ys.length c us hx zO
  (by intro j u hj;rw[Go.Addr.add_lit];exact hc j u hj) (by
   intro u hu;obtain⟨k,hk⟩:=List.getElem?_of_mem hu
   obtain⟨y,hy'⟩:=au ys k (zX (ah hk))
   obtain⟨A,c',e,-⟩:=(hr k u y hk hy').1.ints
   rw[e];rfl) zO (by unfold maxLen;omega) zO Aa w.heap.size rfl ?_
 intro g cap w' q1 q2 q3 q4
 have hst:∀(u:Value) (y:List Int),yb w B T v u y->yb w' B T (Value.slice (some ⟨g,0,none⟩) (l.length+ys.length) cap) u y:=fun u y ⟨h1,h2⟩=>by
  refine⟨aD h1 fun j hj=>?_,fun j hj=>⟨fun e=>?_,(h2 j hj).2⟩⟩
  ·have oC:u.ownBlock=some j:=by simpa using hj
   exact q2.block j (Zad h1 j oC).2 (fun e=>(h2 j oC).1 e.symm)
  ·have e2:g=j:=by simpa[Value.ownBlock]using e
   subst e2;rcases q3 with q3 | q3
   ·exact(h2 g hj).1 q3
   ·have:=(Zad h1 g hj).2;omega
 refine k g cap w' ⟨vs++us,by simpa using q1,by simp[r2,P8],fun j hj=>?_,fun k u y hu hy'=>?_⟩ q2 q3 (Below.grown (Zaf B w |>.mono (Zaj _)) q2 Aa (fun q hq=>(Zad r1 q hq).1))
 ·have e2:g=j:=by simpa[Value.ownBlock]using hj
  subst e2;rcases q3 with q3 | q3
  ·exact r4 g q3
  ·exact hT g zO
 rcases Zbi k vs.length with hk | hk
 ·rw[Zcb hk]at hu;rw[Zcb zO]at hy';exact hst u y (r3 k u y hu hy')
 ·rw[Zca hk]at hu;rw[Zca zO,<- r2]at hy';exact hst u y (hr _ u y hu hy')
theorem sF {w:World} {ops:Array Oper} {rest:List Oper} {o:Oper} {a:Act} {Q:Exit->Act->World->Prop} (gT:o.guard=none) (s x:Operand)
  (ho:o.op=.call { callee:=.builtin .append,args:=#[s,x],argTypes:=#[24,24] }) {B:Nat} {T:Nat->Prop} {v:Value} {l:List (List Int)} (hs:a.eval s=v) (h:cS w B T v l)
  (b:Nat) (u:Value) (y:List Int) (hx:a.eval x=.slice (some ⟨b,0,none⟩) 1 1) (hc:w.cell? ⟨b,0,none⟩=some u) (hu:yb w B T v u y) (hl:l.length+1<=1000000) (Aa:B<=w.heap.size) (hT:∀j,w.heap.size<=j->T j)
  (k:∀g cap w',cS w' B T (.slice (some ⟨g,0,none⟩) (l.length+1) cap) (l++[y])->w.grownBy w' v.ownBlock->(v.ownBlock=some g\/g=w.heap.size)->Below B w w'->wpList Tryz.prog ops Q rest (a.put o.dst (.slice (some ⟨g,0,none⟩) (l.length+1) cap)) w'):wpList Tryz.prog ops Q (o::rest) a w:=
 D6 gT s x ho hs h b 0 1 [u] [y] hx rfl (fun k u' hk=>by
  match k,hk with
  | 0,hk=>simp at hk;subst hk;exact hc
  | k+1,hk=>simp at hk) (fun k u' y' hk hy=>by
  match k,hk with
  | 0,hk=>simp at hk hy;subst hk;subst hy;exact hu
  | k+1,hk=>simp at hk) zS (by simpa using hl) Aa hT k
theorem sG {w:World} {ops:Array Oper} {rest:List Oper} {o:Oper} {a:Act} {Q:Exit->Act->World->Prop} (gT:o.guard=none) (s x:Operand)
  (ho:o.op=.call { callee:=.builtin .append,args:=#[s,x],argTypes:=#[24,24] }) {B:Nat} {T:Nat->Prop} {v:Value} {l:List (List Int)} (hs:a.eval s=v) (h:cS w B T v l) (A:Option Addr) (c:Nat) (hx:a.eval x=.slice A 0 c)
  (k:wpList Tryz.prog ops Q rest (a.put o.dst v) w):wpList Tryz.prog ops Q (o::rest) a w:=by
 obtain⟨i0,hi,e_,dP,dY⟩:=info_parts ER;obtain⟨vs,h,-,-⟩:=h;refine wpList_plain gT fun K hK=>?_
 have ig:(Builtin.append_ #[24,24] o.type #[v,.slice A 0 c]).run Tryz.prog w=.ok v w:=by
  rcases h.2 with⟨rfl,nG⟩ | ⟨g,cap,cur,rfl,_,_,JI,_⟩
  ·cases A <;> simp[Builtin.append_,run_underlying Tryz.underlying24,sizeOf,typeInfo,hi,Builtin.lenOf,Builtin.firstCells,loadCells,loadCellsFrom,Result.andThen]
  ·cases A <;> simp[Builtin.append_,run_underlying Tryz.underlying24,sizeOf,typeInfo,hi,Builtin.lenOf,Builtin.firstCells,JI,storeCells,loadCells,loadCellsFrom,Result.andThen]
 unfold Oper.wp;simp[execOp,ho,resolve,invoke,builtin,hs,hx,ig,Result.andThen]
 exact hK _ _ k
theorem sH {w:World} {ops:Array Oper} {rest:List Oper} {o:Oper} {a:Act} {Q:Exit->Act->World->Prop} (gT:o.guard=none) (s x:Operand)
  (ho:o.op=.call { callee:=.builtin .append,args:=#[s,x],argTypes:=#[24,24] }) {B M:Nat} {T:Nat->Prop} {v:Value} {l:List (List Int)} (hs:a.eval s=v) (h:cS w B T v l) (hv:∀j,v.ownBlock=some j->M<=j)
  {g c0:Nat} {l0:List (List Int)} {w0:World} (hM:M=w0.heap.size) (h0:cS w0 B T (.slice (some ⟨g,0,none⟩) l0.length c0) l0) (aK:Below M w0 w) (p q c:Nat) (hpq:p<=q) (hq:q<=l0.length) (hx:a.eval x=.slice (some ⟨g,p,none⟩) (q-p) c) (hl:l.length+(q-p)<=1000000) (hB:B<=M) (hT:∀j,M<=j->T j)
  (k:∀v' w',cS w' B T v' (l++(l0.take q).drop p)->(∀j,v'.ownBlock=some j->M<=j)->Below M w w'->wpList Tryz.prog ops Q rest (a.put o.dst v') w'):wpList Tryz.prog ops Q (o::rest) a w:=by
 have ii:((l0.take q).drop p).length=q-p:=by simp;omega
 have fD:M<=w.heap.size:=by rw[hM]at aK ⊢;exact aK.size
 rcases Zbk (q-p)with hz | hz
 ·rw[hz]at hx;refine sG gT s x ho hs h _ c hx ?_;have he:(l0.take q).drop p=[]:=Zae zO
  have hk:=k v w (by rw[he,List.append_nil];exact h) hv (Zaf _ _)
  exact hk
 ·have h1:cS w B T (.slice (some ⟨g,0,none⟩) l0.length c0) l0:=h0.since (by rw[hM]at aK;exact aK)
  have hgM:g<M:=by
   obtain⟨vs,r1,-⟩:=h0
   have:=(Zad r1 g (by simp[Value.ownBlock])).2
   omega
  obtain⟨vs,r1,r2,r4,r3⟩:=h1
  have dU:∀k u,vs[k]?=some u->w.cell? ⟨g,0+k,none⟩=some u:=fun k u hu=>by
   rw[Zba,r1.cellAt (cap:=c0) _ (zX (ah hu))];exact hu
  have oH:∀k,k<q-p->((vs.take q).drop p)[k]?=vs[p+k]?:=fun k hk=>by
   rw[List.getElem?_drop,List.getElem?_take,if_pos zO]
  have MK:∀k,k<q-p->((l0.take q).drop p)[k]?=l0[p+k]?:=fun k hk=>by
   rw[List.getElem?_drop,List.getElem?_take,if_pos zO]
  have zU:((vs.take q).drop p).length=q-p:=by simp;omega
  refine D6 gT s x ho hs h g p c ((vs.take q).drop p) ((l0.take q).drop p) (by rw[ii];exact hx) (by rw[ii,zU]) (fun k u hu=>?_) (fun k u y hu hy=>?_) zO zO zO (fun j hj=>hT j zO) ?_
  ·rw[oH k (zX (ah hu))]at hu
   have:=dU _ _ hu
   rw[Zba]at this;exact this
  ·have hk:k<q-p:=zX (ah hu)
   rw[oH k hk]at hu;rw[MK k hk]at hy;obtain⟨a1,a2⟩:=r3 _ u y hu hy;refine⟨a1,fun j hj=>⟨fun e=>?_,(a2 j hj).2⟩⟩
   have e1:=hv j e;have e2:=h0;obtain⟨vs0,s1,s2,s4,s3⟩:=e2
   obtain⟨u0,Lc⟩:=au vs0 (p+k) (zX (ah hy))
   have e3:=(Zad (s3 _ u0 y Lc hy).1 j (by
    have c1:w0.cell? ⟨g,0+(p+k),none⟩=some u0:=by rw[Zba,s1.cellAt (cap:=c0) _ (zX (ah Lc))];exact Lc
    have c2:=bc (show Below w0.heap.size w0 w by rw[hM]at aK;exact aK) c1
    rw[dU _ _ hu]at c2;cases c2
    exact hj)).2
   omega
  ·intro g' cap w' q1 q2 q3 q4;have hb:Below M w w':=Below.grown ((Zaf M w)) q2 fD (fun j hj=>hv j hj)
   refine k _ w' q1 (fun j hj=>?_) hb
   have e2:g'=j:=by simpa[Value.ownBlock]using hj
   subst e2;rcases q3 with q3 | q3
   ·exact hv g' q3
   ·omega
def Fm (l:List (List Int)) (x:List Int):Nat:=(l.takeWhile fun y=>decide (eu y x<0)).length
def tT (l:List (List Int)) (x:List Int):List (List Int):=if l[Fm l x]?=some x then l else l.take (Fm l x)++[x]++l.drop (Fm l x)
theorem ML {l:List (List Int)} {x:List Int} {k:Nat} (hk:k<=l.length) (h1:∀(q:Nat) (y:List Int),q<k->l[q]?=some y->eu y x<0) (h2:∀y,l[k]?=some y->¬eu y x<0):Fm l x=k:=by
 unfold Fm
 induction l generalizing k with
 | nil=>simp at hk;subst hk;rfl
 | cons y l ih=>
  cases k with
  | zero=>
   have:=h2 y rfl
   simp[List.takeWhile,this]
  | succ k=>
   have h3:=h1 0 y zO rfl;have h4:=ih (k:=k) (by simpa using hk) (fun q z hq hz=>h1 (q+1) z zO hz) (fun z hz=>h2 z hz)
   simp[List.takeWhile,h3,h4]
theorem Iu {l:List (List Int)} {x y:List Int} (h:y∈tT l x):y∈l\/y=x:=by
 unfold tT at h
 split at h
 ·exact .inl h
 ·simp only[Zar,Zbm]at h;rcases h with(h | h) | h
  ·exact .inl (List.mem_of_mem_take h)
  ·exact .inr h
  ·exact .inl (List.mem_of_mem_drop h)
theorem WN (l:List (List Int)) (x:List Int):Fm l x<=l.length:=(List.takeWhile_prefix _).length_le
theorem Iv (l:List (List Int)) (x:List Int):(tT l x).length<=l.length+1:=by
 unfold tT
 split
 ·omega
 ·have:=WN l x
  simp;omega
theorem SY (x:List Int):tT [] x=[x]:=by simp[tT,Fm]
theorem O1 {W:World} {B:Nat} {T:Nat->Prop} {v:Value} {l:List (List Int)} (h:cS W B T v l):(v=.slice none 0 0/\l=[])\/∃g c,v=.slice (some ⟨g,0,none⟩) l.length c/\B<=g/\g<W.heap.size/\l.length<=c/\c<=maxLen:=by
 obtain⟨vs,h1,h2,h4,h3⟩:=h;rcases cj h1 with⟨rfl,h0⟩ | ⟨g,c,rfl,hb,hg,hc,hm⟩
 ·exact .inl ⟨rfl,Zae h0⟩
 ·exact .inr ⟨g,c,rfl,hb,hg,hc,hm⟩
theorem Bt (W:World) (B:Nat) (T:Nat->Prop) (hB:B<=W.heap.size) (hT:T W.heap.size):cS (W.alloc (Obj.cells #[] 28)) B T (.slice (some ⟨W.heap.size,0,none⟩) 0 0) []:=by
 have:=World.ownsRow_lit (base:=W.heap.size) (e:=28) (size:=1) W #[] 0 (Zaj _) (Zac _) zS
 exact⟨[],gW (by simpa using this) hB,rfl,fun j hj=>by simp[Value.ownBlock]at hj;exact hj ▸ hT,fun k u x h=>by simp at h⟩
theorem Iw {W:World} {B:Nat} {T:Nat->Prop} {v:Value} {l:List (List Int)} {n:Nat} (h:cS W B T v l) (hn:l.length=n):∃A c,v=.slice A n c:=by
 obtain⟨A,c,e,-⟩:=h.form;exact⟨A,c,hn ▸ e⟩
theorem Bu {w:World} {ops:Array Oper} {rest:List Oper} {o:Oper} {a:Act} {Q:Exit->Act->World->Prop} (gT:o.guard=none) (s x:Operand)
  (ho:o.op=.call { callee:=.builtin .append,args:=#[s,x],argTypes:=#[24,24] }) {B:Nat} {T:Nat->Prop} {v:Value} {l:List (List Int)} (hs:a.eval s=v) (h:cS w B T v l)
  (b:Nat) (u:Value) (y:List Int) (hx:a.eval x=.slice (some ⟨b,0,none⟩) 1 1) (hc:w.cell? ⟨b,0,none⟩=some u) (hu:yb w B T v u y) (n:Nat) (hn:l.length=n) (hl:n+1<=1000000) (Aa:B<=w.heap.size) (hT:∀j,w.heap.size<=j->T j)
  (k:∀g cap w',cS w' B T (.slice (some ⟨g,0,none⟩) (n+1) cap) (l++[y])->w.grownBy w' v.ownBlock->(v.ownBlock=some g\/g=w.heap.size)->Below B w w'->wpList Tryz.prog ops Q rest (a.put o.dst (.slice (some ⟨g,0,none⟩) (n+1) cap)) w'):wpList Tryz.prog ops Q (o::rest) a w:=by
 subst hn;exact sF gT s x ho hs h b u y hx hc hu hl Aa hT k
theorem SZ {M g n c:Nat} {v:Value} {w:World} (hv:∀j,v.ownBlock=some j->M<=j) (h:v.ownBlock=some g\/g=w.heap.size) (hw:M<=w.heap.size):∀j,(Value.slice (some ⟨g,0,none⟩) n c).ownBlock=some j->M<=j:=fun j hj=>by
 simp[Value.ownBlock]at hj
 subst hj;rcases h with h | h
 ·exact hv g h
 ·omega
def S_ (w:World) (B:Nat) (T:Nat->Prop) (l:List (List Int)) (x:List Int) (e:Ending) (w':World):Prop:=∃r,e=.returned r/\cS w' B T r (tT l x)/\Below w.heap.size w w'
theorem vD (v u:Value) (l:List (List Int)) (x:List Int) (B:Nat) (T:Nat->Prop) (w:World) (h:cS w B T v l) (h':Own w B u x) (hl:l.length<=1000) (hB:B<=w.heap.size) (hT:∀j,w.heap.size<=j->T j) (hu:∀j,u.ownBlock=some j->T j)
  (hx:∀z∈x,-1000<=z/\z<=1000) (hy:∀y∈l,y.length=x.length/\∀z∈y,-1000<=z/\z<=1000):
  Calls Tryz.prog 120 #[v,u] w fun e w'=>S_ w B T l x e w':=by
 obtain⟨H,HR,HU,HT,HX,HY,Vk,HB,Hu⟩:=H_ h h.read h' h'.ints hx hy hT hB hu;have Yv:=h'.ints;have hff:=O1 h;clear h h' hx hy hT hB hu;obtain⟨AT,cT,rfl,-⟩:=Yv;rcases hff with⟨rfl,rfl⟩ | ⟨g,c,rfl,tC,ut,fR,hm⟩
 ·clear HR
  go_enter Tryz.func120,Tryz.ntmps120
  go_wp2
  go_loopw [5] (fun i wr=>i=.int .i64 0/\wr=w) (fun _ _=>0)
  case atStart=>exact⟨rfl,rfl⟩
  case round=>
   obtain⟨rfl,rfl⟩:=hrel;have HE:=zh (Bt wr B T HB.out (Vk.out _ (Zaj _)))
   have HEv:Hid (∀j,(Value.slice (some ⟨wr.heap.size,0,none⟩) 0 0).ownBlock=some j->wr.heap.size<=j):=fun j hj=>by simp[Value.ownBlock]at hj;exact hj ▸ Zaj _
   have HEs:=zh (am wr (Obj.cells #[] 28))
   have HRI:Hid (∀W v',ab wr W->(∀j,Value.ownBlock v'=some j->wr.heap.size<=j)->yb W B T v' (.slice AT x.length cT) x):=fun W v' h1 h2=>⟨HU.out.since h1,fun j hj=>⟨fun e=>zY (h2 j e) ((Zad HU.out j hj).2),Hu.out j hj⟩⟩
   go_wp2_with (at_builtin;first | (refine sG rfl _ _ rfl rfl HE none 0 rfl ?_) | (refine sF (w:=(wr.alloc (Obj.cells #[] 28)).alloc (Obj.cells #[Value.slice AT x.length cT] 28)) rfl _ _ rfl rfl (HE.since (ad _ (aa _))) (wr.heap.size+1) _ x rfl (by simp[go_sem]) (HRI _ _ (ad _ (ad _ (aa _))) HEv) zS (Zak HB (ad _ (ad _ (aa wr))).size) (fun j hj=>Vk j (Zak (ad _ (ad _ (aa wr))).size hj)) ?_;intro g3 c3 w3 YE xG Vl er;have YF:=zh YE;have PX:=zh (Zbw (ad _ (ad _ (aa wr))) (Below.grown (Zaf _ _) xG (ad _ (ad _ (aa wr))).size HEv.out));clear YE xG Vl er) | (refine sG rfl _ _ rfl rfl YF none 0 rfl ?_))
   go_ret
   exact⟨_,rfl,by rw[SY];exact YF,PX⟩
 ·unfold maxLen at hm
  go_enter Tryz.func120,Tryz.ntmps120
  go_wp2
  go_loopw [5] (fun i wr=>∃k:Nat,k<=l.length/\i=.int .i64 k/\(∀(q:Nat) (y:List Int),q<k->l[q]?=some y->eu y x<0)/\Below w.heap.size w wr) (fun i _=>l.length-(intOf i).toNat)
  case atStart=>exact⟨0,Zac _,rfl,fun q x h=>zO,Zaf _ _⟩
  case round=>
   obtain⟨k,hk,rfl,c_,hb⟩:=hrel;obtain⟨gS,Hb⟩:=A_ c_ hb;clear c_ hb
   by_cases aA:k<l.length
   ·obtain⟨y,b,off,A1,z,WO,hA,dk,dP,dY,CM⟩:=fw HR aA;cases hA
    replace dk:=bc Hb dk
    rw[Zba]at dk;obtain⟨Hyk,Hys,Hyo⟩:=B_ WO (CM.agU Hb.out) (HY.out y (Zaq WO));obtain⟨cv,EH⟩:=K_ (eu y x)
    have zW:=zh EH;clear WO CM EH;have aar:=zh (ra _ _ y x wr Hys.out (HT.out.agU Hb.out) Hyo.out.1 Hyo.out.2 HX.out)
    by_cases np:cv<0
    ·go_upto_region 3 with(go_at_call 148;refine(aar).mono ?_;rw[zW.out];rintro e w1 ⟨rfl,rfl⟩)
     go_wp2;go_roundw
     case rel=>
      refine⟨k+1,zO,zM,fun q y2 h1 h2=>?_,Hb⟩
      rcases Zbi q k with h3 | h3
      ·exact gS q y2 h3 h2
      ·obtain rfl:q=k:=zO
       have h4:=Hyk.out;rw[h2]at h4;cases h4
       rw[zW.out];exact np
     simp[intOf];omega
    ·have HK:Hid (Fm l x=k):=ML zO gS (fun y2 h2=>by
      have h4:=Hyk.out;rw[h2]at h4;cases h4
      rw[zW.out];exact np)
     by_cases uw:y=x
     ·have Hd:=zh (decide_eq_true uw)
      have C5:Hid (tT l x=l):=by show _=_;unfold tT;rw[HK.out,Hyk.out,uw,if_pos rfl]
      clear uw
      go_wp2_with (first | (go_at_call 148;refine(aar).mono ?_;rw[zW.out];rintro e w1 ⟨rfl,rfl⟩) | (go_at_call 167;refine(pG _ _ y x wr Hys (HT.agU Hb)).mono ?_;rw[Hd.out];rintro e w1 ⟨rfl,aP⟩))
      go_ret
      exact⟨_,rfl,by rw[C5.out];exact H.agU (Hb.trans (aP.mono Hb.size)),Hb.trans (aP.mono Hb.size)⟩
     ·have Hd:=zh (decide_eq_false uw)
      have C5:Hid (tT l x=l.take k++[x]++l.drop k):=by show _=_;unfold tT;rw[HK.out,Hyk.out,if_neg (by simpa using uw)]
      clear uw
      go_upto_region 6 with(first | (go_at_call 148;refine(aar).mono ?_;rw[zW.out];rintro e w1 ⟨rfl,rfl⟩) | (go_at_call 167;refine(pG _ _ y x wr Hys (HT.agU Hb)).mono ?_;rw[Hd.out];rintro e w1 ⟨rfl,aP⟩))
      have Hb:=zh (Hb.out.trans (aP.mono Hb.out.size));clear aP;have HE:=zh (Bt w1 B T (Zak HB.out Hb.out.size) (Vk.out _ Hb.out.size))
      have HEv:Hid (∀j,(Value.slice (some ⟨w1.heap.size,0,none⟩) 0 0).ownBlock=some j->w.heap.size<=j):=fun j hj=>by simp[Value.ownBlock]at hj;exact hj ▸ Hb.out.size
      have HEs:Hid (Below w.heap.size w (w1.alloc (Obj.cells #[] 28))):=Hb.trans ((am w1 _).mono Hb.size)
      have HRI:Hid (∀W v',ab w W->(∀j,Value.ownBlock v'=some j->w.heap.size<=j)->yb W B T v' (.slice AT x.length cT) x):=fun W v' h1 h2=>⟨HU.out.since h1,fun j hj=>⟨fun e=>zY (h2 j e) ((Zad HU.out j hj).2),Hu.out j hj⟩⟩
      have Ix:k<=l.length:=zO
      go_wp2_with (at_builtin;first | (refine sH rfl _ _ rfl rfl HE HEv rfl H HEs 0 k _ (Zac _) Ix rfl (by have:=Ix;first | (simp;done) | (simp;omega)) HB.out Vk.out ?_;intro v2 w2 pP Mn aS;have aas:=zh pP;have HV2:=zh Mn;have rc:=zh (Zbw HEs.out (aS.mono (Zaj _)));obtain⟨A2,c2,rfl⟩:=Iw (n:=k) pP (by have:=Ix;first | (simp;done) | (simp;omega));clear pP Mn aS) | (have S1:=Zak rc.size (am w2 (Obj.cells #[Value.slice AT x.length cT] 28)).size;have S2:=rc.trans ((am w2 (Obj.cells #[Value.slice AT x.length cT] 28)).mono rc.size);have S3:=HRI _ _ S2 HV2;have S4:(([]:List (List Int))++(l.take k).drop 0).length=k:=(by have:=Ix;first | (simp;done) | (simp;omega));refine Bu (w:=w2.alloc (Obj.cells #[Value.slice AT x.length cT] 28)) rfl _ _ rfl rfl (aas.since (ad _ (aa _))) w2.heap.size (Value.slice AT x.length cT) x rfl (by simp[go_sem]) S3 k S4 zO (Zak HB S1) (fun j hj=>Vk j (Zak S1 hj)) ?_;intro g3 c3 w3 YE xG Vl er;have YF:=zh YE;have HV3:=zh (SZ (n:=0) (c:=0) HV2.out Vl S1);have PX:=zh (S2.trans (Below.grown (Zaf _ _) xG S1 HV2.out));clear YE xG Vl er S1 S2 S3 S4) | (refine sH rfl _ _ rfl rfl YF (fun j hj=>HV3 j hj) rfl H PX k l.length _ Ix (Zaj _) rfl (by have:=Ix;first | (simp;done) | (simp;omega)) HB.out Vk.out ?_;intro v4 w4 hr4 hv4 pu;have HR4:=zh hr4;have GK:=zh (PX.out.trans pu);clear hr4 hv4 pu))
      go_ret
      exact⟨_,rfl,by rw[C5.out];have:=HR4.out;simpa using this,GK.out⟩
   ·obtain rfl:k=l.length:=zO
    have HK:Hid (Fm l x=l.length):=ML (Zaj _) gS.out (fun y2 h2=>zX (ah h2))
    have C5:Hid (tT l x=l.take l.length++[x]++l.drop l.length):=by show _=_;unfold tT;rw[HK.out,Zce (Zaj _),if_neg zS]
    go_upto_region 6 with(fail);have HE:=zh (Bt wr B T (Zak HB.out Hb.out.size) (Vk.out _ Hb.out.size))
    have HEv:Hid (∀j,(Value.slice (some ⟨wr.heap.size,0,none⟩) 0 0).ownBlock=some j->w.heap.size<=j):=fun j hj=>by simp[Value.ownBlock]at hj;exact hj ▸ Hb.out.size
    have HEs:Hid (Below w.heap.size w (wr.alloc (Obj.cells #[] 28))):=Hb.trans ((am wr _).mono Hb.size)
    have HRI:Hid (∀W v',ab w W->(∀j,Value.ownBlock v'=some j->w.heap.size<=j)->yb W B T v' (.slice AT x.length cT) x):=fun W v' h1 h2=>⟨HU.out.since h1,fun j hj=>⟨fun e=>zY (h2 j e) ((Zad HU.out j hj).2),Hu.out j hj⟩⟩
    have Ix:l.length<=l.length:=zO
    go_wp2_with (at_builtin;first | (refine sH rfl _ _ rfl rfl HE HEv rfl H HEs 0 l.length _ (Zac _) Ix rfl (by have:=Ix;first | (simp;done) | (simp;omega)) HB.out Vk.out ?_;intro v2 w2 pP Mn aS;have aas:=zh pP;have HV2:=zh Mn;have rc:=zh (Zbw HEs.out (aS.mono (Zaj _)));obtain⟨A2,c2,rfl⟩:=Iw (n:=l.length) pP (by first | (simp;done) | (simp;omega));clear pP Mn aS) | (have S1:=Zak rc.size (am w2 (Obj.cells #[Value.slice AT x.length cT] 28)).size;have S2:=rc.trans ((am w2 (Obj.cells #[Value.slice AT x.length cT] 28)).mono rc.size);have S3:=HRI _ _ S2 HV2;have S4:(([]:List (List Int))++(l.take l.length).drop 0).length=l.length:=(by have:=Ix;first | (simp;done) | (simp;omega));refine Bu (w:=w2.alloc (Obj.cells #[Value.slice AT x.length cT] 28)) rfl _ _ rfl rfl (aas.since (ad _ (aa _))) w2.heap.size (Value.slice AT x.length cT) x rfl (by simp[go_sem]) S3 l.length S4 zO (Zak HB S1) (fun j hj=>Vk j (Zak S1 hj)) ?_;intro g3 c3 w3 YE xG Vl er;have YF:=zh YE;have HV3:=zh (SZ (n:=0) (c:=0) HV2.out Vl S1);have PX:=zh (S2.trans (Below.grown (Zaf _ _) xG S1 HV2.out));clear YE xG Vl er S1 S2 S3 S4) | (refine sG rfl _ _ rfl rfl YF _ _ rfl ?_;have HR4:=YF;have GK:=PX) | (refine sH rfl _ _ rfl rfl YF (fun j hj=>HV3 j hj) rfl H PX l.length l.length _ Ix (Zaj _) rfl (by have:=Ix;first | (simp;done) | (simp;omega)) HB.out Vk.out ?_;intro v4 w4 hr4 hv4 pu;have HR4:=zh hr4;have GK:=zh (PX.out.trans pu);clear hr4 hv4 pu))
    all_goals go_ret
    all_goals exact⟨_,rfl,by rw[C5.out];have:=HR4.out;simpa using this,GK.out⟩
theorem Tc (b:Bool) (w:World):Calls Tryz.prog 193 #[.bool b] w fun e w'=>e=.returned (.int .i64 (if b then 1 else 0))/\w=w':=by
 cases b
 ·go_enter Tryz.func193,Tryz.ntmps193
  go_wp2;go_ret;exact⟨rfl,rfl⟩
 ·go_enter Tryz.func193,Tryz.ntmps193
  go_wp2;go_ret;exact⟨rfl,rfl⟩
def MM:Value->Nat
 | .slice _ n _=>n
 | _=>0
def kM (n:Nat) (f r:Int):List Int:=dz (f::List.replicate (n-1) r)
theorem Td (f r:Int) (k:Nat):f::List.replicate (k+1) r=(f::List.replicate k r)++[r]:=by
 rw[List.cons_append,<- List.replicate_succ']
theorem mn (n:Nat) (f r:Int) (w:World) (h1:1<=n) (h2:n<=4):
  Calls Tryz.prog 192 #[.int .i64 n,.int .i64 f,.int .i64 r] w fun e w'=>∃u,e=.returned u/\Own w' w.heap.size u (kM n f r)/\Below w.heap.size w w':=by
 have Ho0:=zh (dS w [f] (by simp[maxLen]))
 go_enter Tryz.func192,Tryz.ntmps192
 go_wp2
 go_loopw [7] (fun v wr=>∃(k g c:Nat),k<n/\v=.slice (some ⟨g,0,none⟩) (k+1) c/\Own wr w.heap.size v (f::List.replicate k r)/\ab w wr) (fun v _=>n-MM v)
 case atStart=>exact⟨0,_,1,zO,rfl,by simpa using Ho0.out,ad _ (aa _)⟩
 case round=>
  obtain⟨k,g,c,hk,rfl,ho,hs⟩:=hrel;obtain⟨Ho,Hs⟩:=A_ ho hs
  have jb:Hid ((f::List.replicate k r).length+1<=17592186044416):=by show _<=_;simp;omega
  clear ho hs
  by_cases aA:k+1<n
  ·have hd:((k:Int)+1<n)=True:=by simp;omega
   go_wp2_with (at_builtin;refine oP rfl _ _ rfl rfl (Ho.since (ad _ (aa _))) wr.heap.size r rfl (by simp[go_sem]) jb (ad _ Hs) ?_;intro g2 c2 w2 dD fH)
   obtain⟨mg,eU⟩:=A_ dD fH;clear dD fH;go_wp2;go_roundw
   exact⟨k+1,g2,c2,zO,zS,by have:=mg.out;rw[Td];simpa using this,eU.out⟩
   case measure=>simp[MM];omega
  ·have hd:((k:Int)+1<n)=False:=by simp;omega
   have Hn:Hid (n=k+1):=by show _=_;omega
   have NY:Hid ((f::List.replicate k r).length<=1000000):=by show _<=_;simp;omega
   go_wp2_with (go_at_call 121;refine(pK _ _ wr Ho.ints NY).mono ?_;rintro e w1 ⟨u1,rfl,gL,aP⟩)
   go_ret
   exact⟨_,rfl,by unfold kM;rw[Hn.out];exact gL.mono Hs.size,Zbw Hs (aP.mono Hs.size)⟩
def fY (W:World) (B:Nat) (a b:Value) (p:aq):Prop:=∃TN TE:Nat->Prop,cS W B TN a p.nodes/\cS W B TE b p.agW/\∀j,TN j->¬TE j
def lj (d:Nat) (y:List Int):Prop:=y.length=d/\∀z∈y,0<=z/\z<=7
structure WP (d:Nat) (p:aq):Prop where
 lab:1<=p.labels/\p.labels<=4
 deg:p.degree=d
 nod:p.nodes.length<=20/\∀y∈p.nodes,lj d y
 edg:p.agW.length<=20/\∀y∈p.agW,lj 2 y
theorem fY.since {W W':World} {B:Nat} {a b:Value} {p:aq} (h:fY W B a b p) (hs:ab W W'):fY W' B a b p:=by
 obtain⟨TN,TE,h1,h2,h3⟩:=h;exact⟨TN,TE,h1.since hs,h2.since hs,h3⟩
theorem fY.agV {W W':World} {B:Nat} {a b:Value} {p:aq} (h:fY W B a b p) (hk:∀j,B<=j->j<W.heap.size->W'.heap[j]?=W.heap[j]?):fY W' B a b p:=by
 obtain⟨TN,TE,h1,h2,h3⟩:=h;exact⟨TN,TE,h1.agV fun j _=>hk j,h2.agV fun j _=>hk j,h3⟩
theorem fY.mono {W:World} {B B':Nat} {a b:Value} {p:aq} (h:fY W B a b p) (hb:B'<=B):fY W B' a b p:=by
 obtain⟨TN,TE,h1,h2,h3⟩:=h;exact⟨TN,TE,h1.mono hb fun _ h=>h,h2.mono hb fun _ h=>h,h3⟩
theorem fY.read {W:World} {B:Nat} {a b:Value} {p:aq} (h:fY W B a b p):el W a b p:=by
 obtain⟨TN,TE,h1,h2,h3⟩:=h;exact⟨h1.read,h2.read⟩
theorem sI (W:World) (B:Nat) (T:Nat->Prop) (us:List Value) (l:List (List Int)) (P8:us.length=l.length) (hm:l.length<=maxLen) (hr:∀(k:Nat) (u:Value) (y:List Int),us[k]?=some u->l[k]?=some y->Own W B u y/\∀j,u.ownBlock=some j->T j) (hB:B<=W.heap.size) (hT:T W.heap.size):
  cS (W.alloc (.cells us.toArray 28)) B T (.slice (some ⟨W.heap.size,0,none⟩) l.length l.length) l:=by
 have h1:=World.ownsRow_lit (base:=W.heap.size) (e:=28) (size:=1) W us.toArray l.length (Zaj _) hm (by simp[P8]);refine⟨us,gW (by simpa using h1) hB,P8,fun j hj=>?_,fun k u y hu hy=>?_⟩
 ·have e:W.heap.size=j:=by simpa[Value.ownBlock]using hj
  exact e ▸ hT
 ·obtain⟨q1,q2⟩:=hr k u y hu hy;refine⟨q1.since (ad _ (aa _)),fun j hj=>⟨fun e=>?_,q2 j hj⟩⟩
  have e2:W.heap.size=j:=by simpa[Value.ownBlock]using e
  have:=(Zad q1 j hj).2
  omega
theorem wY (W:World) (B:Nat) (u:Value) (x:List Int) (h:Own W B u x) (hB:B<=W.heap.size):cS (W.alloc (.cells #[u] 28)) B (fun j=>j<=W.heap.size) (.slice (some ⟨W.heap.size,0,none⟩) 1 1) [x]:=
 sI W B _ [u] [x] rfl (by simp[maxLen]) (fun k u' y hu hy=>by
  match k,hu,hy with
  | 0,hu,hy=>simp at hu hy;subst hu;subst hy;exact⟨h,fun j hj=>Zcd (Zad h j hj).2⟩
  | k+1,hu,hy=>simp at hu) hB (Zaj _)
theorem D8 (W:World) (B:Nat) (u v:Value) (x y:List Int) (h:Own W B u x) (h':Own W B v y) (hB:B<=W.heap.size):cS (W.alloc (.cells #[u,v] 28)) B (fun j=>j<=W.heap.size) (.slice (some ⟨W.heap.size,0,none⟩) 2 2) [x,y]:=
 sI W B _ [u,v] [x,y] rfl (by simp[maxLen]) (fun k u' y' hu hy=>by
  match k,hu,hy with
  | 0,hu,hy=>simp at hu hy;subst hu;subst hy;exact⟨h,fun j hj=>Zcd (Zad h j hj).2⟩
  | 1,hu,hy=>simp at hu hy;subst hu;subst hy;exact⟨h',fun j hj=>Zcd (Zad h' j hj).2⟩
  | k+2,hu,hy=>simp at hu) hB (Zaj _)
theorem acD (W:World) (s:Nat) (hs:W.heap.size=s) (x1 x2 y1 y2:Int):cS (((W.alloc (.cells #[.int .i64 x1,.int .i64 x2] 3)).alloc (.cells #[.int .i64 y1,.int .i64 y2] 3)).alloc (.cells #[.slice (some ⟨s,0,none⟩) 2 2,.slice (some ⟨s+1,0,none⟩) 2 2] 28)) s (fun j=>s<=j) (.slice (some ⟨s+1+1,0,none⟩) 2 2) [[x1,x2],[y1,y2]]:=by
 subst hs;have o1:=dS W [x1,x2] (by simp[maxLen]);have o2:=dS (W.alloc (.cells #[.int .i64 x1,.int .i64 x2] 3)) [y1,y2] (by simp[maxLen]);have e1:(W.alloc (.cells #[.int .i64 x1,.int .i64 x2] 3)).heap.size=W.heap.size+1:=zS
 rw[e1]at o2;have e2:((W.alloc (.cells #[.int .i64 x1,.int .i64 x2] 3)).alloc (.cells #[.int .i64 y1,.int .i64 y2] 3)).heap.size=W.heap.size+1+1:=zS
 have o1':Own ((W.alloc (.cells #[.int .i64 x1,.int .i64 x2] 3)).alloc (.cells #[.int .i64 y1,.int .i64 y2] 3)) W.heap.size (.slice (some ⟨W.heap.size,0,none⟩) 2 2) [x1,x2]:=o1.since (ad _ (aa _));have o2':Own ((W.alloc (.cells #[.int .i64 x1,.int .i64 x2] 3)).alloc (.cells #[.int .i64 y1,.int .i64 y2] 3)) W.heap.size (.slice (some ⟨W.heap.size+1,0,none⟩) 2 2) [y1,y2]:=Own.mono o2 zO
 have:=sI ((W.alloc (.cells #[.int .i64 x1,.int .i64 x2] 3)).alloc (.cells #[.int .i64 y1,.int .i64 y2] 3)) W.heap.size (fun j=>W.heap.size<=j) [.slice (some ⟨W.heap.size,0,none⟩) 2 2,.slice (some ⟨W.heap.size+1,0,none⟩) 2 2] [[x1,x2],[y1,y2]] rfl (by simp[maxLen]) (fun k u y hu hy=>by
  match k,hu,hy with
  | 0,hu,hy=>simp at hu hy;subst hu;subst hy;exact⟨o1',fun j hj=>(Zad o1' j hj).1⟩
  | 1,hu,hy=>simp at hu hy;subst hu;subst hy;exact⟨o2',fun j hj=>(Zad o2' j hj).1⟩
  | k+2,hu,hy=>simp at hu) (by rw[e2];omega) (by rw[e2];omega)
 rw[e2]at this;exact this
theorem yU {n:Nat} {f r:Int} (h1:1<=n) (hf:0<=f/\f<=7) (hr:0<=r/\r<=7):lj n (kM n f r):=by
 have hp:(kM n f r).Perm (f::List.replicate (n-1) r):=List.mergeSort_perm _ _
 refine⟨by rw[hp.length_eq];simp;omega,fun z hz=>?_⟩
 rw[hp.mem_iff]at hz;rcases Zbe.1 hz with h | h
 ·omega
 ·have:=(List.mem_replicate.1 h).2;omega
theorem sJ {x y:Int} (hx:0<=x/\x<=7) (hy:0<=y/\y<=7):lj 2 [x,y]:=⟨rfl,fun z hz=>by
 simp at hz
 rcases hz with h | h <;> omega⟩
def vE (d:Nat) (w:World) (e:Ending) (w':World):Prop:=∃a b p,e=.returned (.tuple #[.agg #[.int .i64 p.labels,.int .i64 p.degree,a,b],.bool true])/\fY w' w.heap.size a b p/\WP d p/\Below w.heap.size w w'
theorem YG (W:World) (s:Nat) (hs:W.heap.size=s) (x1 x2 y1 y2 z1 z2:Int):cS ((((W.alloc (.cells #[.int .i64 x1,.int .i64 x2] 3)).alloc (.cells #[.int .i64 y1,.int .i64 y2] 3)).alloc (.cells #[.int .i64 z1,.int .i64 z2] 3)).alloc (.cells #[.slice (some ⟨s,0,none⟩) 2 2,.slice (some ⟨s+1,0,none⟩) 2 2,.slice (some ⟨s+1+1,0,none⟩) 2 2] 28)) s (fun j=>s<=j) (.slice (some ⟨s+1+1+1,0,none⟩) 3 3) [[x1,x2],[y1,y2],[z1,z2]]:=by
 subst hs;obtain⟨a1,h1⟩:=J_ (W.alloc (.cells #[.int .i64 x1,.int .i64 x2] 3))
 obtain⟨a2,h2⟩:=J_ (a1.alloc (.cells #[.int .i64 y1,.int .i64 y2] 3))
 obtain⟨a3,h3⟩:=J_ (a2.alloc (.cells #[.int .i64 z1,.int .i64 z2] 3))
 have o1:=dS W [x1,x2] (by simp[maxLen]);have o2:=dS a1 [y1,y2] (by simp[maxLen]);have o3:=dS a2 [z1,z2] (by simp[maxLen])
 have s1:a1.heap.size=W.heap.size+1:=by rw[h1];simp
 have s2:a2.heap.size=W.heap.size+1+1:=by rw[h2,<- s1];simp
 have s3:a3.heap.size=W.heap.size+1+1+1:=by rw[h3,<- s2];simp
 have k2:ab a1 a2:=by rw[h2];exact ad _ (aa _)
 have k3:ab a2 a3:=by rw[h3];exact ad _ (aa _)
 rw[<- h1,<- h2,<- h3]
 replace o1:Own a3 W.heap.size (.slice (some ⟨W.heap.size,0,none⟩) 2 2) [x1,x2]:=Own.since (show Own a1 W.heap.size (.slice (some ⟨W.heap.size,0,none⟩) 2 2) [x1,x2]by rw[h1];exact o1) (k2.after k3)
 replace o2:Own a3 W.heap.size (.slice (some ⟨W.heap.size+1,0,none⟩) 2 2) [y1,y2]:=Own.since (show Own a2 W.heap.size (.slice (some ⟨W.heap.size+1,0,none⟩) 2 2) [y1,y2]by rw[h2,<- s1];exact Own.mono o2 zO) k3
 replace o3:Own a3 W.heap.size (.slice (some ⟨W.heap.size+1+1,0,none⟩) 2 2) [z1,z2]:=by rw[h3,<- s2];exact Own.mono o3 zO
 have:=sI a3 W.heap.size (fun j=>W.heap.size<=j) [.slice (some ⟨W.heap.size,0,none⟩) 2 2,.slice (some ⟨W.heap.size+1,0,none⟩) 2 2,.slice (some ⟨W.heap.size+1+1,0,none⟩) 2 2] [[x1,x2],[y1,y2],[z1,z2]] rfl (by simp[maxLen]) (fun k u y hu hy=>by
  match k,hu,hy with
  | 0,hu,hy=>simp at hu hy;subst hu;subst hy;exact⟨o1,fun j hj=>(Zad o1 j hj).1⟩
  | 1,hu,hy=>simp at hu hy;subst hu;subst hy;exact⟨o2,fun j hj=>(Zad o2 j hj).1⟩
  | 2,hu,hy=>simp at hu hy;subst hu;subst hy;exact⟨o3,fun j hj=>(Zad o3 j hj).1⟩
  | k+3,hu,hy=>simp at hu) (by rw[s3];omega) (by rw[s3];omega)
 rw[s3]at this;exact this
theorem Lr (d:Nat) (w:World) (hd:1<=d/\d<=4):
  Calls Tryz.prog 164 #[.int .i64 d] w fun e w'=>vE d w e w':=by
 obtain⟨w0,bj⟩:=J_ (w.alloc (.cells #[.int .i64 0,.int .i64 0,.slice none 0 0,.slice none 0 0] 26))
 have aK:ab w w0:=by rw[bj];exact ad _ (aa _)
 have Ap:Hid (∀X,ab w0 X->X.heap[w.heap.size]?=some (.cells #[.int .i64 0,.int .i64 0,.slice none 0 0,.slice none 0 0] 26 (0,0))):=fun X hX=>by
  have h1:w0.heap[w.heap.size]?=some (.cells #[.int .i64 0,.int .i64 0,.slice none 0 0,.slice none 0 0] 26 (0,0)):=by
   rw[bj];show(w.heap.push _)[w.heap.size]?=_
   rw[Zbc]
  rw[hX.below.block _ (by rw[bj];simp)]
  exact h1
 obtain⟨cD,ic⟩:=A_ bj aK;have cH:=gA (d:Int) 1 4 w0;rw[show jK 1 4 (d:Int)=true from aB.2 ⟨zO,zO⟩]at cH
 have wE:=zh cH
 have kR:Hid (w.heap.size<w0.heap.size):=by show _<_;rw[bj];simp
 clear bj aK cH
 go_enter Tryz.func164,Tryz.ntmps164
 go_upto_region 1 with(fail);rw[<- cD.out];go_wp2_with fail;refine wE.mono ?_;rintro e w0' ⟨rfl,rfl⟩;go_wp2_with fail;refine(mn d 0 1 w0 hd.1 hd.2).mono ?_;rintro e w1 ⟨u1,rfl,gL,aP⟩;obtain⟨A1,c1,rfl,-,-,-⟩:=id gL.ints;obtain⟨di,YH⟩:=A_ ((show ab w0 w1 from aP)) (gL);clear gL aP;obtain⟨n1,ly⟩:=J_ ((kM d 0 1).length)
 rw[<- ly]at YH ⊢;have r1:=wY w1 w0.heap.size _ _ YH di.below.size;have r2:=acD (w1.alloc (.cells #[.slice A1 n1 c1] 28)) (w1.heap.size+1) zS 0 0 1 1;obtain⟨a1,Cw⟩:=J_ (w1.alloc (.cells #[.slice A1 n1 c1] 28))
 rw[<- Cw]at r1 r2;obtain⟨a4,MN⟩:=J_ (((a1.alloc (.cells #[.int .i64 0,.int .i64 0] 3)).alloc (.cells #[.int .i64 1,.int .i64 1] 3)).alloc (.cells #[.slice (some ⟨w1.heap.size+1,0,none⟩) 2 2,.slice (some ⟨w1.heap.size+1+1,0,none⟩) 2 2] 28))
 rw[<- MN]at r2
 have s1:ab w1 a1:=by rw[Cw];exact ad _ (aa _)
 have s4:ab a1 a4:=by rw[MN];exact ad _ (ad _ (ad _ (aa _)))
 have kD:=zh ((di.out.after s1).after s4)
 have HP:Hid (fY a4 w0.heap.size (.slice (some ⟨w1.heap.size,0,none⟩) 1 1) (.slice (some ⟨w1.heap.size+1+1+1,0,none⟩) 2 2) ⟨2,d,[kM d 0 1],[[0,0],[1,1]]⟩):=
  ⟨_,_,r1.since s4,r2.mono (zX di.out.below.size) (fun _ h=>h),fun j h1 h2=>zO⟩
 have YI:=zh (show a4=_ by rw[MN,Cw])
 have hR:=Ap a4 kD;have d0:a4.cell? ⟨w.heap.size,0,none⟩=some (.int .i64 0):=by simp[World.cell?,hR]
 have d1:a4.cell? ⟨w.heap.size,1,none⟩=some (.int .i64 0):=by simp[World.cell?,hR]
 have d2:a4.cell? ⟨w.heap.size,2,none⟩=some (.slice none 0 0):=by simp[World.cell?,hR]
 have d3:a4.cell? ⟨w.heap.size,3,none⟩=some (.slice none 0 0):=by simp[World.cell?,hR]
 have f0:=frozen_of_row a4 _ 0 _ _ hR;have f1:=frozen_of_row a4 _ 1 _ _ hR;have f2:=frozen_of_row a4 _ 2 _ _ hR;have f3:=frozen_of_row a4 _ 3 _ _ hR;have Hk:Hid (Below w.heap.size w a4):=ab.after ic.below kD;clear hR r1 r2 s1 s4 Cw MN;rw[YI.out]at d0 d1 d2 d3 f0 f1 f2 f3;clear ly;go_wp2;rw[<- YI.out]at d0 d1 d2 d3 f0 f1 f2 f3 ⊢;refine bodyPost_ret (v:=.tuple #[.agg #[.int .i64 2,.int .i64 d,.slice (some ⟨w1.heap.size,0,none⟩) 1 1,.slice (some ⟨w1.heap.size+1+1+1,0,none⟩) 2 2],.bool true]) (by simp[results,Tryz.results164,go_sem, *]) rfl ?_;refine⟨_,_,⟨2,d,[kM d 0 1],[[0,0],[1,1]]⟩,rfl,(fY.agV HP.out fun j q1 q2=>?_).mono (Zcd kR.out),⟨⟨zS,zS⟩,rfl,⟨zS,fun y hy=>?_⟩,⟨zS,fun y hy=>?_⟩⟩,(((Hk.out.setCell zS _).setCell zS _).setCell zS _).setCell zS _⟩
 ·have q3:=kR.out;rw[Zan _ _ _ j (by simp;omega),Zan _ _ _ j (by simp;omega),Zan _ _ _ j (by simp;omega),Zan _ _ _ j (by simp;omega)]
 ·simp at hy;subst hy;exact yU hd.1 (by decide) (by decide)
 ·simp at hy;rcases hy with rfl | rfl <;> exact sJ (by decide) (by decide)
theorem Ls (d:Nat) (w:World) (hd:1<=d/\d<=4):
  Calls Tryz.prog 165 #[.int .i64 d] w fun e w'=>vE d w e w':=by
 obtain⟨w0,bj⟩:=J_ (w.alloc (.cells #[.int .i64 0,.int .i64 0,.slice none 0 0,.slice none 0 0] 26))
 have aK:ab w w0:=by rw[bj];exact ad _ (aa _)
 have Ap:Hid (∀X,ab w0 X->X.heap[w.heap.size]?=some (.cells #[.int .i64 0,.int .i64 0,.slice none 0 0,.slice none 0 0] 26 (0,0))):=fun X hX=>by
  have h1:w0.heap[w.heap.size]?=some (.cells #[.int .i64 0,.int .i64 0,.slice none 0 0,.slice none 0 0] 26 (0,0)):=by
   rw[bj];show(w.heap.push _)[w.heap.size]?=_
   rw[Zbc]
  rw[hX.below.block _ (by rw[bj];simp)]
  exact h1
 obtain⟨cD,ic⟩:=A_ bj aK;have cH:=gA (d:Int) 1 4 w0;rw[show jK 1 4 (d:Int)=true from aB.2 ⟨zO,zO⟩]at cH
 have wE:=zh cH
 have kR:Hid (w.heap.size<w0.heap.size):=by show _<_;rw[bj];simp
 clear bj aK cH
 go_enter Tryz.func165,Tryz.ntmps165
 go_upto_region 1 with(fail);rw[<- cD.out];go_wp2_with fail;refine wE.mono ?_;rintro e w0' ⟨rfl,rfl⟩;go_wp2_with fail;refine(mn d 0 1 w0 hd.1 hd.2).mono ?_;rintro e w1 ⟨u1,rfl,gL,aP⟩;obtain⟨A1,c1,rfl,-,-,-⟩:=id gL.ints;obtain⟨di,YH⟩:=A_ ((show ab w0 w1 from aP)) (gL);clear gL aP;go_wp2_with fail;refine(mn d 2 2 w1 hd.1 hd.2).mono ?_;rintro e w2 ⟨u2,rfl,dD,aS⟩;obtain⟨A2,c2,rfl,-,-,-⟩:=id dD.ints;obtain⟨eU,Qi,qF⟩:=B_ (di.out.after (show ab w1 w2 from aS)) (dD.mono di.out.below.size) (show ab w1 w2 from aS);clear dD aS;obtain⟨n1,ly⟩:=J_ ((kM d 0 1).length)
 rw[<- ly]at YH ⊢;obtain⟨n2,rC⟩:=J_ ((kM d 2 2).length)
 rw[<- rC]at Qi ⊢;have aat:=zh (YH.out.since (show ab w1 w2 from qF.out));have r1:=D8 w2 w0.heap.size _ _ _ _ aat Qi eU.below.size;have r2:=YG (w2.alloc (.cells #[.slice A1 n1 c1,.slice A2 n2 c2] 28)) (w2.heap.size+1) zS 0 0 1 1 1 2;obtain⟨a1,Cw⟩:=J_ (w2.alloc (.cells #[.slice A1 n1 c1,.slice A2 n2 c2] 28))
 rw[<- Cw]at r1 r2;obtain⟨a4,MN⟩:=J_ ((((a1.alloc (.cells #[.int .i64 0,.int .i64 0] 3)).alloc (.cells #[.int .i64 1,.int .i64 1] 3)).alloc (.cells #[.int .i64 1,.int .i64 2] 3)).alloc (.cells #[.slice (some ⟨w2.heap.size+1,0,none⟩) 2 2,.slice (some ⟨w2.heap.size+1+1,0,none⟩) 2 2,.slice (some ⟨w2.heap.size+1+1+1,0,none⟩) 2 2] 28))
 rw[<- MN]at r2
 have s1:ab w2 a1:=by rw[Cw];exact ad _ (aa _)
 have s4:ab a1 a4:=by rw[MN];exact ad _ (ad _ (ad _ (ad _ (aa _))))
 have kD:=zh ((eU.out.after s1).after s4)
 have HP:Hid (fY a4 w0.heap.size (.slice (some ⟨w2.heap.size,0,none⟩) 2 2) (.slice (some ⟨w2.heap.size+1+1+1+1,0,none⟩) 3 3) ⟨3,d,[kM d 0 1,kM d 2 2],[[0,0],[1,1],[1,2]]⟩):=
  ⟨_,_,r1.since s4,r2.mono (zX eU.out.below.size) (fun _ h=>h),fun j h1 h2=>zO⟩
 have YI:=zh (show a4=_ by rw[MN,Cw])
 have hR:=Ap a4 kD;have d0:a4.cell? ⟨w.heap.size,0,none⟩=some (.int .i64 0):=by simp[World.cell?,hR]
 have d1:a4.cell? ⟨w.heap.size,1,none⟩=some (.int .i64 0):=by simp[World.cell?,hR]
 have d2:a4.cell? ⟨w.heap.size,2,none⟩=some (.slice none 0 0):=by simp[World.cell?,hR]
 have d3:a4.cell? ⟨w.heap.size,3,none⟩=some (.slice none 0 0):=by simp[World.cell?,hR]
 have f0:=frozen_of_row a4 _ 0 _ _ hR;have f1:=frozen_of_row a4 _ 1 _ _ hR;have f2:=frozen_of_row a4 _ 2 _ _ hR;have f3:=frozen_of_row a4 _ 3 _ _ hR;have Hk:Hid (Below w.heap.size w a4):=ab.after ic.below kD;clear hR r1 r2 s1 s4 Cw MN;rw[YI.out]at d0 d1 d2 d3 f0 f1 f2 f3;clear ly rC;go_wp2;rw[<- YI.out]at d0 d1 d2 d3 f0 f1 f2 f3 ⊢;refine bodyPost_ret (v:=.tuple #[.agg #[.int .i64 3,.int .i64 d,.slice (some ⟨w2.heap.size,0,none⟩) 2 2,.slice (some ⟨w2.heap.size+1+1+1+1,0,none⟩) 3 3],.bool true]) (by simp[results,Tryz.results165,go_sem, *]) rfl ?_;refine⟨_,_,⟨3,d,[kM d 0 1,kM d 2 2],[[0,0],[1,1],[1,2]]⟩,rfl,(fY.agV HP.out fun j q1 q2=>?_).mono (Zcd kR.out),⟨⟨zS,zS⟩,rfl,⟨zS,fun y hy=>?_⟩,⟨zS,fun y hy=>?_⟩⟩,(((Hk.out.setCell zS _).setCell zS _).setCell zS _).setCell zS _⟩
 ·have q3:=kR.out;rw[Zan _ _ _ j (by simp;omega),Zan _ _ _ j (by simp;omega),Zan _ _ _ j (by simp;omega),Zan _ _ _ j (by simp;omega)]
 ·simp at hy;rcases hy with rfl | rfl <;> exact yU hd.1 (by decide) (by decide)
 ·simp at hy;rcases hy with rfl | rfl | rfl <;> exact sJ (by decide) (by decide)
theorem Lu (d:Nat) (w:World) (hd:1<=d/\d<=4):
  Calls Tryz.prog 166 #[.int .i64 d] w fun e w'=>vE d w e w':=by
 obtain⟨w0,bj⟩:=J_ (w.alloc (.cells #[.int .i64 0,.int .i64 0,.slice none 0 0,.slice none 0 0] 26))
 have aK:ab w w0:=by rw[bj];exact ad _ (aa _)
 have Ap:Hid (∀X,ab w0 X->X.heap[w.heap.size]?=some (.cells #[.int .i64 0,.int .i64 0,.slice none 0 0,.slice none 0 0] 26 (0,0))):=fun X hX=>by
  have h1:w0.heap[w.heap.size]?=some (.cells #[.int .i64 0,.int .i64 0,.slice none 0 0,.slice none 0 0] 26 (0,0)):=by
   rw[bj];show(w.heap.push _)[w.heap.size]?=_
   rw[Zbc]
  rw[hX.below.block _ (by rw[bj];simp)]
  exact h1
 obtain⟨cD,ic⟩:=A_ bj aK;have cH:=gA (d:Int) 1 4 w0;rw[show jK 1 4 (d:Int)=true from aB.2 ⟨zO,zO⟩]at cH
 have wE:=zh cH
 have kR:Hid (w.heap.size<w0.heap.size):=by show _<_;rw[bj];simp
 clear bj aK cH
 go_enter Tryz.func166,Tryz.ntmps166
 go_upto_region 1 with(fail);rw[<- cD.out];go_wp2_with fail;refine wE.mono ?_;rintro e w0' ⟨rfl,rfl⟩;go_wp2_with fail;refine(mn d 0 0 w0 hd.1 hd.2).mono ?_;rintro e w1 ⟨u1,rfl,gL,aP⟩;obtain⟨A1,c1,rfl,-,-,-⟩:=id gL.ints;obtain⟨di,YH⟩:=A_ ((show ab w0 w1 from aP)) (gL);clear gL aP;go_wp2_with fail;refine(mn d 1 2 w1 hd.1 hd.2).mono ?_;rintro e w2 ⟨u2,rfl,dD,aS⟩;obtain⟨A2,c2,rfl,-,-,-⟩:=id dD.ints;obtain⟨eU,Qi,qF⟩:=B_ (di.out.after (show ab w1 w2 from aS)) (dD.mono di.out.below.size) (show ab w1 w2 from aS);clear dD aS;obtain⟨n1,ly⟩:=J_ ((kM d 0 0).length)
 rw[<- ly]at YH ⊢;obtain⟨n2,rC⟩:=J_ ((kM d 1 2).length)
 rw[<- rC]at Qi ⊢;have aat:=zh (YH.out.since (show ab w1 w2 from qF.out));have r1:=D8 w2 w0.heap.size _ _ _ _ aat Qi eU.below.size;have r2:=YG (w2.alloc (.cells #[.slice A1 n1 c1,.slice A2 n2 c2] 28)) (w2.heap.size+1) zS 0 1 0 2 2 2;obtain⟨a1,Cw⟩:=J_ (w2.alloc (.cells #[.slice A1 n1 c1,.slice A2 n2 c2] 28))
 rw[<- Cw]at r1 r2;obtain⟨a4,MN⟩:=J_ ((((a1.alloc (.cells #[.int .i64 0,.int .i64 1] 3)).alloc (.cells #[.int .i64 0,.int .i64 2] 3)).alloc (.cells #[.int .i64 2,.int .i64 2] 3)).alloc (.cells #[.slice (some ⟨w2.heap.size+1,0,none⟩) 2 2,.slice (some ⟨w2.heap.size+1+1,0,none⟩) 2 2,.slice (some ⟨w2.heap.size+1+1+1,0,none⟩) 2 2] 28))
 rw[<- MN]at r2
 have s1:ab w2 a1:=by rw[Cw];exact ad _ (aa _)
 have s4:ab a1 a4:=by rw[MN];exact ad _ (ad _ (ad _ (ad _ (aa _))))
 have kD:=zh ((eU.out.after s1).after s4)
 have HP:Hid (fY a4 w0.heap.size (.slice (some ⟨w2.heap.size,0,none⟩) 2 2) (.slice (some ⟨w2.heap.size+1+1+1+1,0,none⟩) 3 3) ⟨3,d,[kM d 0 0,kM d 1 2],[[0,1],[0,2],[2,2]]⟩):=
  ⟨_,_,r1.since s4,r2.mono (zX eU.out.below.size) (fun _ h=>h),fun j h1 h2=>zO⟩
 have YI:=zh (show a4=_ by rw[MN,Cw])
 have hR:=Ap a4 kD;have d0:a4.cell? ⟨w.heap.size,0,none⟩=some (.int .i64 0):=by simp[World.cell?,hR]
 have d1:a4.cell? ⟨w.heap.size,1,none⟩=some (.int .i64 0):=by simp[World.cell?,hR]
 have d2:a4.cell? ⟨w.heap.size,2,none⟩=some (.slice none 0 0):=by simp[World.cell?,hR]
 have d3:a4.cell? ⟨w.heap.size,3,none⟩=some (.slice none 0 0):=by simp[World.cell?,hR]
 have f0:=frozen_of_row a4 _ 0 _ _ hR;have f1:=frozen_of_row a4 _ 1 _ _ hR;have f2:=frozen_of_row a4 _ 2 _ _ hR;have f3:=frozen_of_row a4 _ 3 _ _ hR;have Hk:Hid (Below w.heap.size w a4):=ab.after ic.below kD;clear hR r1 r2 s1 s4 Cw MN;rw[YI.out]at d0 d1 d2 d3 f0 f1 f2 f3;clear ly rC;go_wp2;rw[<- YI.out]at d0 d1 d2 d3 f0 f1 f2 f3 ⊢;refine bodyPost_ret (v:=.tuple #[.agg #[.int .i64 3,.int .i64 d,.slice (some ⟨w2.heap.size,0,none⟩) 2 2,.slice (some ⟨w2.heap.size+1+1+1+1,0,none⟩) 3 3],.bool true]) (by simp[results,Tryz.results166,go_sem, *]) rfl ?_;refine⟨_,_,⟨3,d,[kM d 0 0,kM d 1 2],[[0,1],[0,2],[2,2]]⟩,rfl,(fY.agV HP.out fun j q1 q2=>?_).mono (Zcd kR.out),⟨⟨zS,zS⟩,rfl,⟨zS,fun y hy=>?_⟩,⟨zS,fun y hy=>?_⟩⟩,(((Hk.out.setCell zS _).setCell zS _).setCell zS _).setCell zS _⟩
 ·have q3:=kR.out;rw[Zan _ _ _ j (by simp;omega),Zan _ _ _ j (by simp;omega),Zan _ _ _ j (by simp;omega),Zan _ _ _ j (by simp;omega)]
 ·simp at hy;rcases hy with rfl | rfl <;> exact yU hd.1 (by decide) (by decide)
 ·simp at hy;rcases hy with rfl | rfl | rfl <;> exact sJ (by decide) (by decide)
end Go.Proofs.YtnioemnkfojmkaaGreat
