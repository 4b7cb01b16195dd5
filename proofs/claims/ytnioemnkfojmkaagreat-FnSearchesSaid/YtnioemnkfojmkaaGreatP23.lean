/- Parts of the proof: walks of functions and plain laws. -/
import Derived.Test.YtnioemnkfojmkaaGreatP0
import Derived.Test.YtnioemnkfojmkaaGreatP22
import Derived.Test.YtnioemnkfojmkaaGreatP21
import Derived.Test.YtnioemnkfojmkaaGreatP16
import Derived.Deep.CutBlock
import Derived.Test.YtnioemnkfojmkaaGreatP19
set_option maxRecDepth 100000
set_option maxHeartbeats 16000000
namespace Go.Proofs.YtnioemnkfojmkaaGreat
open Go Go.RowKit
section
variable {P : Program} {ops : Array Oper}
theorem lV {Q:Exit->Act->World->Prop} {Ei:Nat} {a:Act} {w:World} (k:Nat) (cs:List Nat) (R:Nat->Value->World->Prop) (Inv:Nat->World->Prop) (VQ:World->World->Prop) (hrel:∀j u W W',VQ W W'->R j u W->R j u W')
  (hm:P.follows .mixedOrders=true) (hf:ra ops k=true) (xR:decide (k<=ops.size)=true) (hnd:cs.Nodup) (fG:Zi ops k cs=true) (h0:Inv 0 w.drew)
  (gz:∀i o,i<k->ops[i]?=some o->∀V W q,Inv q W->(∀r,cs.findIdx? (fun x=>x==i)=some r->r=q)->(∀r j oj,cs[r]?=some j->ops[j]?=some oj->i∈bU oj->q<=r)->(∀d∈bU o,R d (V d) W)->Region.wanted o (yielded ops (aM ops (List.range k) V a).tmps)=true/\oX P o (aM ops (List.range k) V a) W (fun u W'=>Inv (if (cs.findIdx? (fun x=>x==i)).isSome then q+1 else q) W'/\VQ W W'/\R i u W'))
  (yd:∀V W q,Inv q W->q<=cs.length->(∀i r,i<k->cs.findIdx? (fun x=>x==i)=some r->r<q)->(∀j,j<k->R j (V j) W)->wpList P ops Q (ops.toList.drop k) (aM ops (List.range k) V a) W):(Code.region Ei ops true).wp P Q a w:=by
 have dJ:=ph hf;have xR:=of_decide_eq_true xR
 have frame:∀V,aN a ops V (fun j=>j<k) (aM ops (List.range k) V a):=fun V=>by
  have:=ku (a:=a) dJ.adk xR V (List.range k) (fun _=>False) a (fun _ h=>h.elim) (fun j hj=>⟨List.mem_range.1 hj,id⟩) List.nodup_range (aN.start a V)
  exact this.same (fun j=>by simp)
 have Zj:∀i o r,i<k->ops[i]?=some o->cs.findIdx? (fun x=>x==i)=some r->r=0\/∃j∈bU o,cs.findIdx? (fun x=>x==j)=some (r-1):=by
  intro i o r hi ho hr;have h1:=List.all_eq_true.1 fG i (List.mem_range.2 hi);rw[ho]at h1;simp only[hr]at h1;rw[Bool.or_eq_true]at h1;rcases h1 with h1 | h1
  ·left;simpa using h1
  ·cases hj:cs[r-1]? with
   | none=>rw[hj]at h1;cases h1
   | some j=>
    rw[hj]at h1
    right
    refine⟨j,by simpa using h1,?_⟩
    rw[List.findIdx?_eq_some_iff_getElem];have aH:=al hj
    have hge:cs[r-1]=j:=by
     have:=List.getElem?_eq_getElem aH
     rw[hj]at this;exact(Option.some.inj this).symm
    refine⟨aH,by simpa using hge,fun m hm=>?_⟩
    intro hc;have PZ:cs[m]=j:=by simpa using hc
    have Zk:=List.pairwise_iff_getElem.1 hnd m (r-1) (by omega) aH hm;exact Zk (PZ.trans hge.symm)
 let J:(Nat->Prop)->Act->World->Prop:=fun D a' W=>
  (∃q,Inv q W/\q<=cs.length/\(∀i r,cs.findIdx? (fun x=>x==i)=some r->(D i↔r<q))/\(∀j,D j->j<k)/\∃V,aN a ops V D a'/\∀j,D j->R j (V j) W) \/
  (∃m,k<=m/\m<=ops.size/\(∀j,j<ops.size->(D j↔j<m))/\wpList P ops Q (ops.toList.drop m) a' W)
 have rB:∀D a' W,J D a' W->(∀j,j<k->D j)->∃m,k<=m/\m<=ops.size/\(∀j,j<ops.size->(D j↔j<m))/\wpList P ops Q (ops.toList.drop m) a' W:=by
  intro D a' W hJ hD;rcases hJ with⟨q,hq,zi,Pq,kt,V,ip,hV⟩ | hJ
  ·have e:a'=aM ops (List.range k) V a:=ip.ext (frame V) (fun j _=>⟨kt j,hD j⟩)
   subst e;exact⟨k,Nat.le_refl _,xR,fun j _=>⟨kt j,hD j⟩,yd V W q hq zi (fun i r hi hr=>(Pq i r hr).1 (hD i hi)) (fun j hj=>hV j (hD j hj))⟩
  ·exact hJ
 refine gB hm dJ.back J (.inl ⟨0,h0,Nat.zero_le _,fun i r _=>⟨fun h=>h.elim,fun h=>by omega⟩,fun j hj=>hj.elim,fun _=>undef,aN.start a _,fun j hj=>hj.elim⟩) ?_ ?_
 ·intro D a' W i o hJ ho mz io qs;have dH:i<ops.size:=(Array.getElem?_eq_some_iff.1 ho).1
  by_cases g7:i<k
  ·rcases hJ with⟨q,hq,zi,Pq,kt,V,ip,hV⟩ | ⟨m,h1,h2,h3,_⟩
   rotate_left
   ·exact absurd ((h3 i dH).2 (by omega)) mz
   have hri:∀r,cs.findIdx? (fun x=>x==i)=some r->r=q:=by
    intro r hr;have h1:¬r<q:=fun h=>mz ((Pq i r hr).2 h)
    rcases Zj i o r g7 ho hr with h2 | ⟨j,hj,h2⟩
    ·omega
    ·have:=(Pq j _ h2).1 (io j hj)
     omega
   have fH:∀r j oj,cs[r]?=some j->ops[j]?=some oj->i∈bU oj->q<=r:=fun r j oj hj fW NJ=>by
    rcases Nat.lt_or_ge r q with h | h
    ·exfalso
     have hf:cs.findIdx? (fun x=>x==j)=some r:=by
      rw[List.findIdx?_eq_some_iff_getElem];have aH:=al hj
      have hge:cs[r]=j:=by
       have:=List.getElem?_eq_getElem aH
       rw[hj]at this;exact(Option.some.inj this).symm
      refine⟨aH,by simpa using hge,fun m hm=>?_⟩
      intro hc;have PZ:cs[m]=j:=by simpa using hc
      have Zk:=List.pairwise_iff_getElem.1 hnd m r (by omega) aH hm;exact Zk (PZ.trans hge.symm)
     exact mz (qs j oj ((Pq j r hf).2 h) fW i NJ)
    ·exact h
   obtain⟨hw,ct⟩:=gz i o g7 ho V W q hq hri fH (fun d hd=>hV d (io d hd))
   obtain⟨he,sP⟩:=eW (ops:=ops) (a':=a') (A:=aM ops (List.range k) V a) (fun t ht=>ip.agree (frame V) t (fun j oj hj fW hd=>by
    have lJ:j<k:=hj.elim (fun h=>kt j h) id
    exact⟨io j (dJ.looks i o g7 ho t ht j oj lJ fW hd),lJ⟩)) (fun cs b=>dJ.adi i o cs b ho)
   have next:∀u W',Inv (if (cs.findIdx? (fun x=>x==i)).isSome then q+1 else q) W'->VQ W W'->R i u W'->J (fun j=>D j\/j=i) (a'.put o.dst u) W':=by
    intro u W' hI aby hRi;refine .inl ⟨_,hI,?_,fun i' r' Jm=>?_,fun j hj=>hj.elim (kt j) (fun e=>by omega),Nd V i u,?_,fun j hj=>?_⟩
    ·cases hr:cs.findIdx? (fun x=>x==i) with
     | none=>simpa using zi
     | some r=>
      have:=hri r hr
      obtain⟨aH,-,-⟩:=List.findIdx?_eq_some_iff_getElem.1 hr
      simp;omega
    ·cases hr:cs.findIdx? (fun x=>x==i) with
     | none=>
      simp only[Option.isSome_none,Bool.false_eq_true,if_false];constructor
      ·rintro(h | rfl)
       ·exact(Pq i' r' Jm).1 h
       ·rw[hr]at Jm;cases Jm
      ·exact fun h=>.inl ((Pq i' r' Jm).2 h)
     | some r=>
      have hrq:=hri r hr;simp only[Option.isSome_some,if_true];constructor
      ·rintro(h | rfl)
       ·have:=(Pq i' r' Jm).1 h;omega
       ·rw[hr]at Jm;cases Jm;omega
      ·intro h
       by_cases h':r'<q
       ·exact .inl ((Pq i' r' Jm).2 h')
       ·have e:r'=r:=by omega
        subst e;exact .inr (yB Jm hr)
    ·have:=(ip.adf (v':=Nd V i u) (fun j _ hj=>(vT V u (fun e=>by subst e;exact mz hj)).symm)).put (i:=i) ho (fun j oj d hj fW hd kq=>by
      have:=dJ.adk i o g7 ho j oj (kt j hj) fW d hd kq
      subst this
      exact mz hj)
     rwa [fm]at this
    ·rcases hj with hj | rfl
     ·have nV:j≠i:=fun e=>by subst e;exact mz hj
      rw[vT V u nV];exact hrel _ _ _ _ aby (hV j hj)
     ·rw[fm];exact hRi
   rw[if_pos (sP.trans hw)];refine .inl ?_;unfold Oper.wp;rw[he];unfold oX at ct
   generalize (execOp (aM ops (List.range k) V a).eval o).run P W=r at ct ⊢
   cases r with
   | ok nx W'=>
    cases nx with
    | value u=>exact next u W' ct.1 ct.2.1 ct.2.2
    | skip=>exact next undef W' ct.1 ct.2.1 ct.2.2
    | enter f args=>
     simp only[Oper.upon]
     exact Calls.mono ct fun e kM ⟨u,x6,h3,h4,h5⟩=>by subst x6;exact next u kM h3 h4 h5
    | _=>exact ct.elim
   | halt x W'=>exact ct.elim
  ·have bH:∀j,j<i->D j:=fun j hj=>fg qs ho io (dJ.tail i (by omega) dH j hj)
   obtain⟨m,h1,h2,h3,h4⟩:=rB D a' W hJ (fun j hj=>bH j (by omega))
   have NU:m=i:=by
    by_cases e1:i<m
    ·exact absurd ((h3 i dH).2 e1) mz
    ·by_cases e2:m<i
     ·have:=(h3 m (by omega)).1 (bH m e2);omega
     ·omega
   subst NU
   have Jn:ops.toList.drop m=o::ops.toList.drop (m+1):=by
    have:m<ops.toList.length:=by simpa using dH
    rw[List.drop_eq_getElem_cons this];congr 1
    have:=(Array.getElem?_eq_some_iff.1 ho).2
    simpa using this
   rw[Jn]at h4;unfold wpList at h4
   have next:∀a W,wpList P ops Q (ops.toList.drop (m+1)) a W->J (fun j=>D j\/j=m) a W:=fun a W h=>.inr ⟨m+1,by omega,by omega,fun j hj=>by
    constructor
    ·rintro(h | rfl)
     ·have:=(h3 j hj).1 h;omega
     ·omega
    ·intro h
     by_cases e:j=m
     ·exact .inr e
     ·exact .inl ((h3 j hj).2 (by omega)),h⟩
   split
   ·rename_i hw
    rw[if_pos hw]at h4;exact h4.imp (Oper.wp_mono next) id
   ·rename_i hw
    rw[if_neg hw]at h4;exact next _ _ h4
 ·intro D a' W hJ bH;obtain⟨m,h1,h2,h3,h4⟩:=rB D a' W hJ (fun j hj=>bH j (by omega))
  have RG:m=ops.size:=by
   by_cases e:m<ops.size
   ·have:=(h3 m e).1 (bH m e);omega
   ·omega
  subst RG;rw[List.drop_eq_nil_of_le (by simp)]at h4;exact h4
end
def TR (N:aw):Prop:=Gd 50 40 N/\0<N.ends.length/\0<(be N 0).length
theorem TD.tr {N:aw} (h:TD N):TR N:=⟨h.1.mono (Nat.le_refl _) (by omega),h.2⟩
theorem Uj (k:Nat) (h1:1<=k) (h2:k<=7):Gd 2 7 (fe k)/\(fe k).ends.length=k/\(be (fe k) 0).length=2:=by
 have h0:(fe k).ends.length=k:=by simp[fe,pI]
 have hg:=LW k h1 (by omega)
 have hr:∀(j:Nat) (es:List (Int×Int)),(fe k).ends[j]?=some es->es.length=2:=fun j es he=>by
  have hj:j<k:=by rw[<- h0];exact al he
  have e2:es=iy k j:=by
   have:=sg hj
   rw[show(fe k).ends=il k from rfl,this]at he;exact(Option.some.inj he).symm
  rw[e2];simp[iy]
 exact⟨⟨by omega,fun j es he=>by rw[hr j es he];omega,by simp[fe],hg.ac1,hg.wf⟩,h0,hr 0 _ (bK (by omega))⟩
structure yD (cb rb:Nat) (A:Option Addr) (L c P0 K nc:Nat) (wS:World) (ve vi vn:Value) (T:World->Prop) (q:Nat) (W:World):Prop where
 cur:bB W cb A L c (P0+K*q)
 rel:C2 cb rb wS W
 box:q<=nc->aZ W rb ve vi vn
 done:nc<q->T W
section
variable {cb rb : Nat} {A : Option Addr} {L c P0 K nc : Nat} {wS W W' : World} {ve vi vn : Value} {T : World → Prop} {q : Nat}
theorem yD.start (hc:bB wS cb A L c P0) (hb:aZ wS rb ve vi vn) (hs:aa wS W):yD cb rb A L c P0 K nc wS ve vi vn T 0 W:=
 ⟨hc.since hs,C2.since hs,fun _=>hb.below hs hb.lt,fun h=>by omega⟩
theorem yD.call (h:yD cb rb A L c P0 K nc wS ve vi vn T q W) (hq:q<nc) (hC:CB cb W.heap.size W W') {P':Nat} (df:bB W' cb A L c P') (hP:P'<=P0+K*q+K) (hn:rb≠cb):yD cb rb A L c P0 K nc wS ve vi vn T (q+1) W':=
 ⟨df.mono (by rw[Nat.mul_add];omega),h.rel.trans (C2.of hC),fun _=>(h.box (by omega)).blk (hC.block _ (h.box (by omega)).lt hn),fun h=>by omega⟩
theorem yD.store (h:yD cb rb A L c P0 K nc wS ve vi vn T q W) (hq:q=nc) {x y z:Value} (hT:T (ac5 W rb x y z)) (hn:rb≠cb) (aH:cb<rb):yD cb rb A L c P0 K nc wS ve vi vn T (q+1) (ac5 W rb x y z):=
 ⟨(h.cur.ac2 fun k hk=>co _ _ _ _ _ (by omega)).mono (by rw[Nat.mul_add];omega),h.rel.trans (C2.set _ _ _ _ _ _),fun h=>by omega,fun _=>hT⟩
end
def FE (u:Value) (_:World):Prop:=∃kk:Nat,u=.int .i64 kk/\(kk=1\/kk=2)
def nz (B:Nat) (u:Value) (W:World):Prop:=∃(A0:Option Addr) (c0:Nat) (A1:Option Addr) (c1:Nat) (A2:Option Addr) (c2:Nat) (um:Value) (N:aw) (S:List Nat),u=.tuple #[.agg #[.slice A0 N.ends.length c0,.slice A1 N.ids.length c1,.slice A2 N.ac1.length c2],um]/\au W B (.slice A0 N.ends.length c0) (.slice A1 N.ids.length c1) (.slice A2 N.ac1.length c2) N S/\Dq N
def xD (B:Nat) (u:Value) (W:World):Prop:=∃(A0:Option Addr) (c0:Nat) (A1:Option Addr) (c1:Nat) (A2:Option Addr) (c2:Nat) (N:aw) (S:List Nat),u=.agg #[.slice A0 N.ends.length c0,.slice A1 N.ids.length c1,.slice A2 N.ac1.length c2]/\au W B (.slice A0 N.ends.length c0) (.slice A1 N.ids.length c1) (.slice A2 N.ac1.length c2) N S/\Dq N
theorem nz.rel {cb rb B:Nat} (hc:cb<B) (hr:rb<B):∀u W W',C2 cb rb W W'->nz B u W->nz B u W':=fun _ _ _ h ⟨A0,c0,A1,c1,A2,c2,um,N,S,h1,h2,h3⟩=>⟨A0,c0,A1,c1,A2,c2,um,N,S,h1,h.net hc hr h2,h3⟩
theorem xD.rel {cb rb B:Nat} (hc:cb<B) (hr:rb<B):∀u W W',C2 cb rb W W'->xD B u W->xD B u W':=fun _ _ _ h ⟨A0,c0,A1,c1,A2,c2,N,S,h1,h2,h3⟩=>⟨A0,c0,A1,c1,A2,c2,N,S,h1,h.net hc hr h2,h3⟩
def Zl (B pb:Nat) (W:World):Prop:=∃(ve vi vn:Value) (N:aw) (S:List Nat),au W B ve vi vn N S/\aZ W pb ve vi vn/\Dq N
theorem I8 (cb:Nat) (A:Option Addr) (L c P d:Nat) (w:World) (hc:bB w cb A L c P) (hP:P<=3500000000000000000) (hd:1<=d/\d<=4):
  Calls Tryz.prog 74 #[.pointer (some ⟨cb,0,none⟩),.int .i64 d] w (yt cb w.heap.size A L c (P+300000000000000000) w (TN 100 80)):=by
 have ia:=hc.lt;obtain⟨B,te⟩:∃z,z=w.heap.size+1:=⟨_,rfl⟩
 obtain⟨w0,ar⟩:∃z,z=w.alloc (.cells #[.slice none 0 0,.slice none 0 0,.slice none 0 0] 30):=⟨_,rfl⟩
 have bu:aa w w0:=by rw[ar];exact ae _ (ad _)
 have eu:w0.heap.size=B:=by rw[ar,te];simp
 have fG:bA w0 w.heap.size (.slice none 0 0) (.slice none 0 0) (.slice none 0 0):=by
  rw[ar];show(w.heap.push _)[w.heap.size]?=_
  rw[Array.getElem?_push_size]
 obtain⟨w1,kT⟩:∃z,z=w0.alloc (.cells #[.slice none 0 0,.slice none 0 0,.slice none 0 0] 30):=⟨_,rfl⟩
 have ll:aa w0 w1:=by rw[kT];exact ae _ (ad _)
 have kC:cb<B:=by omega
 obtain⟨pb,da⟩:∃z,z=B:=⟨_,rfl⟩
 have qm:Mb cb B pb A L c P w0 w1 (.slice none 0 0) (.slice none 0 0) (.slice none 0 0) ⟨[],[],[]⟩ []:=
  ⟨vF _ _,by rw[kT,da,<- eu];exact aZ.new _ _ _ _ _,by simp,(hc.since bu).since ll,CB.of (ll.below.mono (by omega))⟩
 have dP:pb<w1.heap.size:=qm.box.lt;have eY:=zh fG;have f6:=zh bu;have cS:=zh ar;have Jo:=zh kT;have fL:=zh te;have gh:=zh eu;have cB:Hid (B<=pb):=Nat.le_of_eq da.symm;have Hpe:=zh da;have tT:=zh qm
 have uZ:Hid (B<=w1.heap.size):=by show _<=_;omega
 have iM:pb≠cb:=by omega
 clear fG bu ar kT hc te eu qm ll dP da
 go_enter Tryz.func74,Tryz.ntmps74
 go_upto_region 1 with(fail);rw[<- cS.out];go_upto_region 2 with(fail);rw[<- Jo.out,show w0.heap.size=pb from by rw[gh.out,Hpe.out]]
 go_wp2_with fail;refine(db cb A L c P 5 w1 tT.out.cur (by omega) (by omega)).mono ?_;rintro e w2 ⟨x,rfl,hx,df,hC⟩;have gK:=zh (tT.out.seen hC df kC cB.out uZ.out);have l3:Hid (B<=w2.heap.size):=Nat.le_trans uZ.out hC.size;have Te:x=0\/x=1\/x=2\/x=3\/x=4:=by omega
 clear df hC hx tT uZ Jo
 go_upto_block 0 with(fail)
 go_cut []from 12 to 60 (fun wx=>∃ve vi vn N S,Mb cb B pb A L c (P+10) w0 wx ve vi vn N S/\TR N/\B<=wx.heap.size)
 case first=>
  rcases Te with rfl | rfl | rfl | rfl | rfl
  ·obtain⟨s,hs⟩:∃s,s=d%2:=⟨_,rfl⟩
   obtain⟨l,hl⟩:∃l,l=d/2:=⟨_,rfl⟩
   have nQ:s<=1:=by omega
   have gX:l<=2:=by omega
   have I0:1<=s+l:=by omega
   have m1:(d:Int).tmod 2=(s:Int):=by rw[Int.tmod_eq_emod_of_nonneg (by omega),hs];simp
   have m2:(d:Int)%2=(s:Int):=by rw[hs];simp
   have m3:(d:Int).tdiv 2=(l:Int):=by rw[Int.tdiv_eq_ediv_of_nonneg (by omega),hl];simp
   have m4:(d:Int)/2=(l:Int):=by rw[hl];simp
   have m5:IntKind.i64.wrap (s:Int)=(s:Int):=aE _ (by omega) (by omega);have m6:IntKind.i64.wrap (l:Int)=(l:Int):=aE _ (by omega) (by omega);clear hs hl;go_wp2_with fail;refine(Dl s l nQ gX I0 w2).mono ?_;rintro e w3 ⟨ve,vi,vn,N,S,rfl,ho,ht,hb⟩;obtain⟨D0,d0,rfl,-,-,-⟩:=id ho.read.1;obtain⟨D1,d1,rfl,-,-,-⟩:=id ho.read.2.1;obtain⟨D2,d2,rfl,-,-,-⟩:=id ho.read.2.2;have gR:aa w2 w3:=hb;have fF:=gK.out.assign (CB.of gR) (gK.out.cur.since gR) ho gK.out.box.lt kC cB.out l3.out;have vj:=zh fF;obtain⟨k0,k1,k2,f0,f1,f2⟩:=(gK.out.box.below gR gK.out.box.lt).cells
   have xY:Hid (B<=(ac5 w3 pb (.slice D0 N.ends.length d0) (.slice D1 N.ids.length d1) (.slice D2 N.ac1.length d2)).heap.size):=by show _<=_;rw[dV];exact Nat.le_trans l3.out gR.below.size
   clear ho hb gR fF;go_wp2;go_meet
   case rel=>exact⟨_,_,_,N,S,vj.out.mono (by omega),ht.tr,xY.out⟩
  ·go_wp2_with fail;refine(db cb A L c (P+2) 2 w2 gK.out.cur (by omega) (by omega)).mono ?_;rintro e w3 ⟨y,rfl,hy,df,hC⟩;have Mm:=zh (gK.out.seen hC df kC cB.out l3.out);have Zm:Hid (B<=w3.heap.size):=Nat.le_trans l3.out hC.size;obtain⟨dp,hdp⟩:∃k,k=1+y:=⟨_,rfl⟩
   have m1:IntKind.i64.wrap (1+(y:Int))=(dp:Int):=by rw[aE _ (by omega) (by omega)];omega
   have hdb:1<=dp/\dp<=2:=by omega
   clear hy df hC hdp;go_wp2_with fail;refine(uC d dp hd hdb w3).mono ?_;rintro e w4 ⟨ve,vi,vn,N,S,rfl,ho,ht,hb⟩;obtain⟨D0,d0,rfl,-,-,-⟩:=id ho.read.1;obtain⟨D1,d1,rfl,-,-,-⟩:=id ho.read.2.1;obtain⟨D2,d2,rfl,-,-,-⟩:=id ho.read.2.2;have gR:aa w3 w4:=hb;have fF:=Mm.out.assign (CB.of gR) (Mm.out.cur.since gR) ho Mm.out.box.lt kC cB.out Zm.out;have vj:=zh fF;obtain⟨k0,k1,k2,f0,f1,f2⟩:=(Mm.out.box.below gR Mm.out.box.lt).cells
   have xY:Hid (B<=(ac5 w4 pb (.slice D0 N.ends.length d0) (.slice D1 N.ids.length d1) (.slice D2 N.ac1.length d2)).heap.size):=by show _<=_;rw[dV];exact Nat.le_trans Zm.out gR.below.size
   clear ho hb gR fF;go_wp2;go_meet
   case rel=>exact⟨_,_,_,N,S,vj.out.mono (by omega),ht.tr,xY.out⟩
  ·go_wp2_with fail;refine(db cb A L c (P+2) 7 w2 gK.out.cur (by omega) (by omega)).mono ?_;rintro e w3 ⟨y,rfl,hy,df,hC⟩;have Mm:=zh (gK.out.seen hC df kC cB.out l3.out);have Zm:Hid (B<=w3.heap.size):=Nat.le_trans l3.out hC.size;obtain⟨k,hk⟩:∃k,k=1+y:=⟨_,rfl⟩
   have m1:IntKind.i64.wrap (1+(y:Int))=(k:Int):=by rw[aE _ (by omega) (by omega)];omega
   have Uk:1<=k/\k<=7:=by omega
   clear hy df hC hk;go_wp2_with fail;refine(tY k Uk.1 (by omega) w3).mono ?_;rintro e w4 ⟨ve,vi,vn,S,rfl,ho,hb⟩;have Pr:=Uj k Uk.1 Uk.2;obtain⟨N,hN⟩:∃z,z=fe k:=⟨_,rfl⟩
   rw[<- hN]at ho Pr;obtain⟨D0,d0,rfl,-,-,-⟩:=id ho.read.1;obtain⟨D1,d1,rfl,-,-,-⟩:=id ho.read.2.1;obtain⟨D2,d2,rfl,-,-,-⟩:=id ho.read.2.2;have gR:aa w3 w4:=hb;have fF:=Mm.out.assign (CB.of gR) (Mm.out.cur.since gR) ho Mm.out.box.lt kC cB.out Zm.out;have vj:=zh fF;obtain⟨k0,k1,k2,f0,f1,f2⟩:=(Mm.out.box.below gR Mm.out.box.lt).cells
   have xY:Hid (B<=(ac5 w4 pb (.slice D0 N.ends.length d0) (.slice D1 N.ids.length d1) (.slice D2 N.ac1.length d2)).heap.size):=by show _<=_;rw[dV];exact Nat.le_trans Zm.out gR.below.size
   clear ho hb gR fF;have Hcy:=zh Pr;have HN:=zh hN;clear Pr hN;go_upto_region 11 with(fail);obtain⟨w5,yr⟩:∃z,z=ac5 w4 pb (.slice D0 N.ends.length d0) (.slice D1 N.ids.length d1) (.slice D2 N.ac1.length d2):=⟨_,rfl⟩
   rw[<- yr]at vj xY;rw[show((w4.setCell ⟨pb,0,none⟩ (.slice D0 N.ends.length d0)).setCell ⟨pb,1,none⟩ (.slice D1 N.ids.length d1)).setCell ⟨pb,2,none⟩ (.slice D2 N.ac1.length d2)=w5 from yr.symm];clear yr k0 k1 k2 f0 f1 f2
   go_loopw [6] (fun i wr=>∃(q:Nat) (ve vi vn:Value) (M:aw) (T:List Nat),2<=q/\q<=4/\i=.int .i64 q/\Mb cb B pb A L c (P+10) w0 wr ve vi vn M T/\Gd (7*q) 7 M/\M.ends.length=k/\2<=(be M 0).length/\B<=wr.heap.size) (fun i _=>4-(intOf i).toNat)
   case atStart=>exact⟨2,_,_,_,N,S,by omega,by omega,by first | rfl | go_num,vj.out.mono (by omega),Hcy.out.1.mono (by omega) (by omega),Hcy.out.2.1,by rw[Hcy.out.2.2];omega,xY.out⟩
   case round=>
    obtain⟨q,ve,vi,vn,M,T,lX,hq4,rfl,hm,hg,DI,jm,hz⟩:=hrel;obtain⟨E0,e0,rfl,-,-,-⟩:=id hm.own.read.1;obtain⟨E1,e1,rfl,-,-,-⟩:=id hm.own.read.2.1;obtain⟨E2,e2,rfl,-,-,-⟩:=id hm.own.read.2.2;have xk:=zh hm;have Hg4:=zh hg;have GH:=zh DI;have tH:=zh jm;have tW:=zh hz;clear hm hg DI jm hz
    by_cases hqd:q<d
    ·have m2:IntKind.i64.wrap ((q:Int)+1)=(q:Int)+1:=aE _ (by omega) (by omega);obtain⟨k0,k1,k2,f0,f1,f2⟩:=xk.out.box.cells;rw[GH.out]at k0;obtain⟨wo,rfl⟩:∃z,z=wr:=⟨_,rfl⟩
     go_upto_region 14 with(fail);clear k0 k1 k2 f0 f1 f2
     go_loopw [46] (fun i wr=>∃(v:Nat) (ve vi vn:Value) (M:aw) (T:List Nat),v<=k/\i=.int .i64 v/\Mb cb B pb A L c (P+10) w0 wr ve vi vn M T/\Gd (7*q+v) 7 M/\M.ends.length=k/\2<=(be M 0).length/\B<=wr.heap.size) (fun i _=>k-(intOf i).toNat)
     case atStart=>exact⟨0,_,_,_,M,T,by omega,rfl,xk.out,Hg4.out,GH.out,tH.out,tW.out⟩
     case round=>
      obtain⟨v,ve,vi,vn,M,T,hv,rfl,hm,hg,DI,jm,hz⟩:=hrel;obtain⟨G0,g0,rfl,-,-,-⟩:=id hm.own.read.1;obtain⟨G1,g1,rfl,-,-,-⟩:=id hm.own.read.2.1;obtain⟨G2,g2,rfl,-,-,-⟩:=id hm.own.read.2.2;have iO:=zh hm;have VK:=zh hg;have Ul:=zh DI;have Hr5:=zh jm;have IR:=zh hz;clear hm hg DI jm hz
      by_cases hvk:v<k
      ·have m3:IntKind.i64.wrap ((v:Int)+1)=(v:Int)+1:=aE _ (by omega) (by omega);obtain⟨k0,k1,k2,f0,f1,f2⟩:=iO.out.box.cells
       have L0:v<M.ends.length:=by rw[Ul.out];exact hvk
       have TL:=zh L0;clear L0;go_wp2_with fail;refine(qR _ _ _ M v wr iO.out.own.read TL.out ((VK.out.mono (R':=50) (M':=40) (by omega) (by omega)).small (by omega) (by omega))).mono ?_;rintro e w6 ⟨Nx,Ny,Nz,S6,rfl,dW,bJ⟩;have ut:aa wr w6:=bJ;obtain⟨F0,h0,rfl,-,-,-⟩:=id dW.read.1;obtain⟨F1,h1,rfl,-,-,-⟩:=id dW.read.2.1;obtain⟨F2,h2,rfl,-,-,-⟩:=id dW.read.2.2;obtain⟨J,hJ⟩:∃z,z=jp M v:=⟨_,rfl⟩
       rw[<- hJ]at dW;rw[<- hJ];have hm6:=iO.out.assign (CB.of ut) (iO.out.cur.since ut) dW iO.out.box.lt kC cB.out IR.out;have nS:=zh hm6;have HJ:=zh hJ;clear k0 k1 k2 f0 f1 f2;obtain⟨k0,k1,k2,f0,f1,f2⟩:=(iO.out.box.below ut iO.out.box.lt).cells
       have Hz6:Hid (B<=(ac5 w6 pb (.slice F0 J.ends.length h0) (.slice F1 J.ids.length h1) (.slice F2 J.ac1.length h2)).heap.size):=by show _<=_;rw[dV];exact Nat.le_trans IR.out ut.below.size
       clear dW bJ ut hm6 hJ;go_wp2;go_roundw
       case rel=>exact⟨v+1,_,_,_,J,S6,by omega,by first | rfl | go_num,nS.out,by rw[HJ.out];exact VK.out.stub TL.out,by rw[HJ.out,jb];exact Ul.out,by rw[HJ.out,rX TL.out];have:=Hr5.out;omega,Hz6.out⟩
       case measure=>simp[intOf];omega
      ·obtain rfl:v=k:=by omega
       go_wp2;go_roundw
       case rel=>exact⟨q+1,_,_,_,M,T,by omega,by omega,by first | rfl | go_num,iO.out,VK.out.mono (by omega) (by omega),Ul.out,Hr5.out,IR.out⟩
       case measure=>simp[intOf];omega
    ·go_wp2;go_meet
     case rel=>exact⟨_,_,_,M,T,xk.out,⟨Hg4.out.mono (by omega) (by omega),by rw[GH.out];omega,by have:=tH.out;omega⟩,tW.out⟩
  ·have m1:IntKind.i64.wrap ((d:Int)+1)=((d+1:Nat):Int):=by rw[aE _ (by omega) (by omega)];omega
   go_wp2_with fail;refine(Dp (d+1) (by omega) w2).mono ?_;rintro e w3 ⟨ve,vi,vn,N,S,rfl,ho,ht,hb⟩;obtain⟨D0,d0,rfl,-,-,-⟩:=id ho.read.1;obtain⟨D1,d1,rfl,-,-,-⟩:=id ho.read.2.1;obtain⟨D2,d2,rfl,-,-,-⟩:=id ho.read.2.2;have gR:aa w2 w3:=hb;have fF:=gK.out.assign (CB.of gR) (gK.out.cur.since gR) ho gK.out.box.lt kC cB.out l3.out;have vj:=zh fF;obtain⟨k0,k1,k2,f0,f1,f2⟩:=(gK.out.box.below gR gK.out.box.lt).cells
   have xY:Hid (B<=(ac5 w3 pb (.slice D0 N.ends.length d0) (.slice D1 N.ids.length d1) (.slice D2 N.ac1.length d2)).heap.size):=by show _<=_;rw[dV];exact Nat.le_trans l3.out gR.below.size
   clear ho hb gR fF;go_wp2;go_meet
   case rel=>exact⟨_,_,_,N,S,vj.out.mono (by omega),ht.tr,xY.out⟩
  ·go_wp2_with fail;refine(Gv cb A L c (P+2) 7 38 w2 gK.out.cur (by omega) (by omega) (by omega) (by omega)).mono ?_;rintro e w3 ⟨ve,vi,vn,N,S,rfl,ho,hT,df,hC⟩;obtain⟨D0,d0,rfl,-,-,-⟩:=id ho.read.1;obtain⟨D1,d1,rfl,-,-,-⟩:=id ho.read.2.1;obtain⟨D2,d2,rfl,-,-,-⟩:=id ho.read.2.2;have bi:=(gK.out.far.mono (Nat.le_refl B)).trans (hC.mono l3.out)
   have eK:=bi.adb eY.out (by have:=fL.out;omega) (by omega)
   obtain⟨e0,e1,e2,f0,f1,f2⟩:=eK.box.cells;have aC:=ho.mono l3.out;rw[fL.out]at aC bi;have cK:=zh (d_ f6.out aC df bi ia);have HT:=zh hT;clear bi eK aC df hC ho hT;go_wp2;refine bodyPost_ret (v:=.agg #[.slice D0 N.ends.length d0,.slice D1 N.ids.length d1,.slice D2 N.ac1.length d2]) (by simp[results,Tryz.results74,go_sem, *]) rfl ?_;obtain⟨r1,r2,r3⟩:=cK.out;exact⟨_,_,_,N,S,rfl,r1,⟨HT.out.1.mono (by omega) (by omega),HT.out.2⟩,r2.mono (by omega),r3⟩
 case rest=>
  obtain⟨ve,vi,vn,N,S,hm,hg,hz⟩:=hcut;obtain⟨D0,d0,rfl,-,-,-⟩:=id hm.own.read.1;obtain⟨D1,d1,rfl,-,-,-⟩:=id hm.own.read.2.1;obtain⟨D2,d2,rfl,-,-,-⟩:=id hm.own.read.2.2;obtain⟨w3,rfl⟩:∃z,z=wc:=⟨_,rfl⟩
  have Hm:=zh hm;have Hg:=zh hg;have Hz:=zh hz;clear hm hg hz gK l3;go_wp2_with fail;refine(lF cb A L c (P+10) 2 w3 Hm.out.cur (by omega) (by omega)).mono ?_;rintro e w4 ⟨bb,rfl,df,hC⟩;have xk:=zh (Hm.out.seen hC df kC cB.out Hz.out);have tW:Hid (B<=w4.heap.size):=Nat.le_trans Hz.out hC.size;clear df hC
  go_upto_if 62 with(fail)
  go_cut []from 63 to 71 (fun wx=>∃ve vi vn N S,Mb cb B pb A L c (P+4000000) w0 wx ve vi vn N S/\TN 100 80 N/\B<=wx.heap.size)
  case first=>
   cases bb
   ·go_wp2;go_meet
    case rel=>exact⟨_,_,_,N,S,xk.out.mono (by omega),⟨Hg.out.1.mono (by omega) (by omega),Hg.out.2.1⟩,tW.out⟩
   ·go_upto_region 21 with(fail);have Ft:aZ w4 pb (.slice D0 N.ends.length d0) (.slice D1 N.ids.length d1) (.slice D2 N.ac1.length d2):=xk.out.box;have HoS:=zh xk.out.own;have HnS:=zh xk.out.nb;have sB:=zh xk.out.cur;have HbS:=zh Ft;have HgS:Hid (Gd 50 40 N/\0<N.ends.length/\0<(be N 0).length):=Hg.out
    have HPb:Hid (P+12<=3600000000000000000):=by show _<=_;omega
    have KK:Hid (cb<w4.heap.size):=by show _<_;have:=tW.out;omega
    have Tm:Hid (pb<w4.heap.size):=Ft.lt;have abz:pb≠cb:=iM
    have HcP:Hid (cb<pb):=by show _<_;have:=cB.out;omega
    have Zn:=zh xk.out.far;have Zo:Hid (bB w4 cb A L c (P+12)):=sB.out.mono (by omega);clear Ft;refine lV 10 [3,5,9] (RW [nT (.pointer (some ⟨cb,0,none⟩)),nT (.agg #[.slice D0 N.ends.length d0,.slice D1 N.ids.length d1,.slice D2 N.ac1.length d2]),nT (.pointer (some ⟨cb,0,none⟩)),Ml (2),FE,nz w4.heap.size,nz w4.heap.size,xD w4.heap.size,fun _ _=>True,fun _ _=>True]) (yD cb pb A L c (P+12) (1000000) 2 w4 (.slice D0 N.ends.length d0) (.slice D1 N.ids.length d1) (.slice D2 N.ac1.length d2) (fun W=>Zl w4.heap.size pb W)) (C2 cb pb) (RW.rel ?_) (by kernel_rfl) (by kernel_rfl) (by kernel_rfl) (by decide) (by kernel_rfl) (yD.start Zo.out HbS.out (ag (ad _))) ?_ ?_
    ·intro r hr;simp only[List.mem_cons,List.not_mem_nil,or_false]at hr;rcases hr with rfl | rfl | rfl | rfl | rfl | rfl | rfl | rfl | rfl | rfl
     ·exact fun _ _ _ _ h=>h
     ·exact fun _ _ _ _ h=>h
     ·exact fun _ _ _ _ h=>h
     ·exact fun _ _ _ _ h=>h
     ·exact fun _ _ _ _ h=>h
     ·exact nz.rel KK.out Tm.out
     ·exact nz.rel KK.out Tm.out
     ·exact xD.rel KK.out Tm.out
     ·exact fun _ _ _ _ h=>h
     ·exact fun _ _ _ _ h=>h
    ·intro i o hi ho V W q hq hr fH hd
     match i,ho with
     | 0,ho=>
      cases ho;clear hd hi hr fH;refine⟨rfl,?_⟩;simp only[aM,zR10,zG,zA]
      refine cp (u:=.pointer (some ⟨cb,0,none⟩)) (W':=W) (by go_simp) ⟨hq,C2.refl _ _ _,rfl⟩
     | 1,ho=>
      cases ho;have lX:q<=2:=fH 2 9 _ rfl rfl (by decide +kernel);clear hd hi hr fH;refine⟨rfl,?_⟩;simp only[aM,zR10,zG,zA]
      obtain⟨k0,k1,k2,-,-,-⟩:=(hq.box lX).cells;clear lX;refine cp (u:=.agg #[.slice D0 N.ends.length d0,.slice D1 N.ids.length d1,.slice D2 N.ac1.length d2]) (W':=W) (by go_simp) ⟨hq,C2.refl _ _ _,rfl⟩
     | 2,ho=>
      cases ho;clear hd hi hr fH;refine⟨rfl,?_⟩;simp only[aM,zR10,zG,zA]
      refine cp (u:=.pointer (some ⟨cb,0,none⟩)) (W':=W) (by go_simp) ⟨hq,C2.refl _ _ _,rfl⟩
     | 3,ho=>
      cases ho;have e2:(nT (.pointer (some ⟨cb,0,none⟩))) (V 2) W:=hd 2 (by decide +kernel);have kX:Hid (0=q):=hr 0 rfl;clear hd hi hr fH;refine⟨rfl,?_⟩;simp only[aM,zR10,zG,zA]
      have e2:V 2=_:=e2;rw[e2];clear e2;refine jY (f:=65) (args:=#[.pointer (some ⟨cb,0,none⟩),.int .i64 2]) (W':=W) (by go_simp) ?_
      refine(db cb A L c (P+12+1000000*q) (2) W hq.cur (by have:=HPb.out;have:=kX.out;omega) (by omega)).mono ?_
      rintro e W' ⟨z,rfl,hz,df,hC⟩
      exact⟨_,rfl,hq.call (by have:=kX.out;omega) hC df (by omega) iM,C2.of hC,z,rfl,hz⟩
     | 4,ho=>
      cases ho;have e3:(Ml (2)) (V 3) W:=hd 3 (by decide +kernel);clear hd hi hr fH;refine⟨rfl,?_⟩;simp only[aM,zR10,zG,zA]
      obtain⟨y,hv,hy⟩:=e3;have hv:V 3=_:=hv;rw[hv];obtain⟨kk,Df⟩:∃z,z=1+y:=⟨_,rfl⟩
      have m1:IntKind.i64.wrap (1+(y:Int))=(kk:Int):=by rw[aE _ (by omega) (by omega)];omega
      have nP:kk=1\/kk=2:=by omega
      clear Df;refine cp (u:=.int .i64 kk) (W':=W) (by go_simp) ⟨hq,C2.refl _ _ _,kk,rfl,nP⟩
     | 5,ho=>
      cases ho;have e0:(nT (.pointer (some ⟨cb,0,none⟩))) (V 0) W:=hd 0 (by decide +kernel);have e1:(nT (.agg #[.slice D0 N.ends.length d0,.slice D1 N.ids.length d1,.slice D2 N.ac1.length d2])) (V 1) W:=hd 1 (by decide +kernel);have e4:(FE) (V 4) W:=hd 4 (by decide +kernel);have kX:Hid (1=q):=hr 1 rfl;clear hd hi hr fH;refine⟨rfl,?_⟩;simp only[aM,zR10,zG,zA]
      obtain⟨kk,Df,nP⟩:=e4;have Df:V 4=_:=Df;have e0:V 0=_:=e0;have e1:V 1=_:=e1;rw[e0,e1,Df];clear e0 e1 Df;refine jY (f:=129) (args:=#[.pointer (some ⟨cb,0,none⟩),.agg #[.slice D0 N.ends.length d0,.slice D1 N.ids.length d1,.slice D2 N.ac1.length d2],.int .i64 kk]) (W':=W) (by go_simp) ?_
      refine(T8 kk nP cb A L c (P+12+1000000*q) B _ _ _ N S W hq.cur (by have:=HPb.out;have:=kX.out;omega) (HoS.out.ac4 fun j hj=>(hq.rel.block j (HoS.out.range j hj).2 (by have:=(HoS.out.range j hj).1;omega) (fun e=>HnS.out (e ▸ hj)))) kC (HgS.out.1.mono (by omega) (by omega)) HgS.out.2.1 HgS.out.2.2).mono ?_
      rintro e W' ⟨BC,BE,BF,um,N6,S6,ls,rfl,cJ,iw,hou,hls,df,hC⟩
      refine⟨_,rfl,hq.call (by have:=kX.out;omega) hC df (by omega) iM,C2.of hC,?_⟩
      obtain⟨E0,e0,rfl,-,-,-⟩:=id cJ.read.1;obtain⟨E1,e1,rfl,-,-,-⟩:=id cJ.read.2.1;obtain⟨E2,e2,rfl,-,-,-⟩:=id cJ.read.2.2;exact⟨E0,e0,E1,e1,E2,e2,um,N6,S6,rfl,cJ.mono hq.rel.size,iw⟩
     | 6,ho=>
      cases ho;have e5:(nz w4.heap.size) (V 5) W:=hd 5 (by decide +kernel);clear hd hi hr fH;refine⟨rfl,?_⟩;simp only[aM,zR10,zG,zA]
      obtain⟨E0,y0,E1,y1,E2,y2,um,N6,S6,hv,cJ,iw⟩:=e5;rw[hv];refine cp (u:=.tuple #[.agg #[.slice E0 N6.ends.length y0,.slice E1 N6.ids.length y1,.slice E2 N6.ac1.length y2],um]) (W':=W) (by go_simp) ⟨hq,C2.refl _ _ _,E0,y0,E1,y1,E2,y2,um,N6,S6,rfl,cJ,iw⟩
     | 7,ho=>
      cases ho;have e6:(nz w4.heap.size) (V 6) W:=hd 6 (by decide +kernel);clear hd hi hr fH;refine⟨rfl,?_⟩;simp only[aM,zR10,zG,zA]
      obtain⟨E0,y0,E1,y1,E2,y2,um,N6,S6,hv,cJ,iw⟩:=e6;rw[hv];refine cp (u:=.agg #[.slice E0 N6.ends.length y0,.slice E1 N6.ids.length y1,.slice E2 N6.ac1.length y2]) (W':=W) (by go_simp) ⟨hq,C2.refl _ _ _,E0,y0,E1,y1,E2,y2,N6,S6,rfl,cJ,iw⟩
     | 8,ho=>
      cases ho;have e6:(nz w4.heap.size) (V 6) W:=hd 6 (by decide +kernel);clear hd hi hr fH;refine⟨rfl,?_⟩;simp only[aM,zR10,zG,zA]
      obtain⟨E0,y0,E1,y1,E2,y2,um,N6,S6,hv,cJ,iw⟩:=e6;rw[hv];refine cp (u:=um) (W':=W) (by go_simp) ⟨hq,C2.refl _ _ _,trivial⟩
     | 9,ho=>
      cases ho;have e7:(xD w4.heap.size) (V 7) W:=hd 7 (by decide +kernel);have kX:Hid (2=q):=hr 2 rfl;clear hd hi hr fH;refine⟨rfl,?_⟩;simp only[aM,zR10,zG,zA]
      obtain⟨E0,y0,E1,y1,E2,y2,N6,S6,hv,cJ,iw⟩:=e7;rw[hv]
      have dj:=hq.box (by have:=kX.out;omega)
      obtain⟨g0,g1,g2,f0,f1,f2⟩:=dj.cells
      have hnp:pb∉S6:=fun h=>by have:=(cJ.range _ h).1;have:=Tm.out;omega
      refine jX (W':=ac5 W pb (.slice E0 N6.ends.length y0) (.slice E1 N6.ids.length y1) (.slice E2 N6.ac1.length y2)) (by unfold ac5;go_simp) ⟨hq.store (by have:=kX.out;omega) ⟨_,_,_,N6,S6,cJ.ac4 (fun j hj=>co _ _ _ _ _ (fun e=>hnp (e ▸ hj))),dj.ac5 _ _ _,iw⟩ abz HcP.out,C2.set _ _ _ _ _ _,trivial⟩
     | i+10,ho=>omega
    intro V W q hq zi bH hV;have F4:3<=q:=bH 9 2 (by omega) rfl;have e0:(nT (.pointer (some ⟨cb,0,none⟩))) (V 0) W:=hV 0 (by decide);have e1:(nT (.agg #[.slice D0 N.ends.length d0,.slice D1 N.ids.length d1,.slice D2 N.ac1.length d2])) (V 1) W:=hV 1 (by decide);have e2:(nT (.pointer (some ⟨cb,0,none⟩))) (V 2) W:=hV 2 (by decide);have e3:(Ml (2)) (V 3) W:=hV 3 (by decide);have e4:(FE) (V 4) W:=hV 4 (by decide);have e5:(nz w4.heap.size) (V 5) W:=hV 5 (by decide);have e6:(nz w4.heap.size) (V 6) W:=hV 6 (by decide);have e7:(xD w4.heap.size) (V 7) W:=hV 7 (by decide);have e8:(fun _ _=>True) (V 8) W:=hV 8 (by decide)
    have e9:(fun _ _=>True) (V 9) W:=hV 9 (by decide)
    clear hV bH;have e0:V 0=_:=e0;have e1:V 1=_:=e1;have e2:V 2=_:=e2;obtain⟨z3,e3,b3⟩:=e3;obtain⟨kk,e4,Df⟩:=e4;obtain⟨X0,x0,X1,x1,X2,x2,um5,N5,S5,e5,-,-⟩:=e5;obtain⟨Y0,y0,Y1,y1,Y2,y2,um6,N7,S7,e6,-,-⟩:=e6;obtain⟨Z0,z0,Z1,z1,Z2,z2,N8,S8,e7,-,-⟩:=e7;obtain⟨v8,e8⟩:∃v,V 8=v:=⟨_,rfl⟩
    obtain⟨v9,e9⟩:∃v,V 9=v:=⟨_,rfl⟩
    simp only[aM,zR10,zG]
    (try simp only[zA])
    simp only[List.drop_succ_cons,List.drop_zero];rw[e0,e1,e2,e3,e4,e5,e6,e7,e8];clear e0 e1 e2 e3 e4 e5 e6 e7 e8 e9;have Q5:q<=3:=zi;have hT:=hq.done F4;obtain⟨va,vb,vc,N6,S6,t1,t2,t3⟩:=hT
    have hmx:Mb cb B pb A L c (P+4000000) w0 W va vb vc N6 S6:=⟨t1.mono (Nat.le_trans tW.out (Nat.le_refl _)),t2,fun h=>by have:=(t1.range _ h).1;have:=Tm.out;omega,hq.cur.mono (by omega),hq.rel.cb Zn.out cB.out tW.out⟩
    have Hmx:=zh hmx;have Hgx:=zh t3;have Hzx:Hid (B<=W.heap.size):=Nat.le_trans tW.out hq.rel.size;clear t1 t2 hmx hq F4 Q5 zi;go_wp2;go_meet
    case rel=>exact⟨_,_,_,N6,S6,Hmx.out,Hgx.out,Hzx.out⟩
  case rest=>
   obtain⟨ve,vi,vn,N,S,hm,hg,hz⟩:=hcut;obtain⟨E0,e0,rfl,-,-,-⟩:=id hm.own.read.1;obtain⟨E1,e1,rfl,-,-,-⟩:=id hm.own.read.2.1;obtain⟨E2,e2,rfl,-,-,-⟩:=id hm.own.read.2.2;obtain⟨w5,rfl⟩:∃z,z=wc:=⟨_,rfl⟩
   have gK:=zh hm;have yv:=zh hg;have kB:=zh hz;obtain⟨k0,k1,k2,-,-,-⟩:=hm.box.cells;clear hm hg hz;go_wp2_with fail;refine(rW cb A L c _ B 100 80 _ _ _ N S w5 gK.out.cur (by omega) gK.out.own kC kB.out yv.out.1 (by omega) (by omega) yv.out.2).mono ?_;rintro e w6 ⟨BC,BE,BF,N6,S6,rfl,cJ,⟨rY,iw⟩,eh,ix⟩;obtain⟨D0,d0,rfl,-,-,-⟩:=id cJ.read.1;obtain⟨D1,d1,rfl,-,-,-⟩:=id cJ.read.2.1;obtain⟨D2,d2,rfl,-,-,-⟩:=id cJ.read.2.2;have bi:=(gK.out.far.mono (Nat.le_refl B)).trans ix
   have eK:=bi.adb eY.out (by have:=fL.out;omega) (by omega)
   obtain⟨e0,e1,e2,f0,f1,f2⟩:=eK.box.cells;have aC:=cJ;rw[fL.out]at aC bi;have cK:=zh (d_ f6.out aC eh bi ia);have xj:=zh rY;have zu:=zh iw;clear bi eK aC rY iw eh ix cJ k0 k1 k2;go_wp2;refine bodyPost_ret (v:=.agg #[.slice D0 N6.ends.length d0,.slice D1 N6.ids.length d1,.slice D2 N6.ac1.length d2]) (by simp[results,Tryz.results74,go_sem, *]) rfl ?_;obtain⟨r1,r2,r3⟩:=cK.out
   exact⟨_,_,_,N6,S6,rfl,r1,⟨zu.out,by have:=yv.out.2;have:=xj.out.len;omega⟩,r2.mono (by omega),r3⟩
theorem Ps (cb:Nat) (A:Option Addr) (L c P most M:Nat) (w:World) (hc:bB w cb A L c P) (hP:P<=3800000000000000000) (pT:1<=most) (nh:most<=M) (hM:M<=38):
  Calls Tryz.prog 73 #[.pointer (some ⟨cb,0,none⟩),.int .i64 most] w (yt cb w.heap.size A L c (P+220000000000000000) w Bd):=by
 have ia:=hc.lt;obtain⟨B,te⟩:∃z,z=w.heap.size+1:=⟨_,rfl⟩
 obtain⟨w0,ar⟩:∃z,z=w.alloc (.cells #[.slice none 0 0,.slice none 0 0,.slice none 0 0] 30):=⟨_,rfl⟩
 have bu:aa w w0:=by rw[ar];exact ae _ (ad _)
 have eu:w0.heap.size=B:=by rw[ar,te];simp
 have fG:bA w0 w.heap.size (.slice none 0 0) (.slice none 0 0) (.slice none 0 0):=by
  rw[ar];show(w.heap.push _)[w.heap.size]?=_
  rw[Array.getElem?_push_size]
 have eY:=zh fG;have f6:=zh bu;have cS:=zh ar;have fL:=zh te;have gh:=zh eu;have xi:=zh (hc.since bu);clear fG bu ar hc te eu
 go_enter Tryz.func73,Tryz.ntmps73
 go_upto_region 1 with(fail);rw[<- cS.out];go_wp2_with fail;refine(db cb A L c P 8 w0 xi.out (by omega) (by omega)).mono ?_;rintro e w1 ⟨x,rfl,hx,jc,ky⟩;have gE:=zh jc
 have lZ:Hid (CB cb B w0 w1):=by show CB _ _ _ _;rw[<- gh.out];exact ky
 have eA:B<=w1.heap.size:=by rw[<- gh.out];exact ky.size
 have kC:cb<B:=by have:=fL.out;omega
 have hx8:x<8:=by omega
 clear jc ky hx;rcases(show x=0\/x=1\/x=2\/x=3\/x=4\/x=5\/x=6\/x=7 by omega)with rfl | rfl | rfl | rfl | rfl | rfl | rfl | rfl
 ·skip;go_wp2_with fail;refine(AB cb A L c (P+2) most M w1 gE.out (by omega) pT nh (by omega)).mono ?_;rintro e w6 ⟨BC,BE,BF,N6,S6,rfl,cJ,iw,eh,ix⟩;obtain⟨D0,d0,rfl,-,-,-⟩:=id cJ.read.1;obtain⟨D1,d1,rfl,-,-,-⟩:=id cJ.read.2.1;obtain⟨D2,d2,rfl,-,-,-⟩:=id cJ.read.2.2;have bi:CB cb B w0 w6:=lZ.out.trans (ix.mono eA)
  have eK:=bi.adb eY.out (by have:=fL.out;omega) (by omega)
  obtain⟨e0,e1,e2,f0,f1,f2⟩:=eK.box.cells;have aC:=cJ.mono eA;rw[fL.out]at aC bi;have cK:=zh (d_ f6.out aC eh bi ia);have qW:Hid (Bd N6):=iw.1.bd (by omega) (by omega);clear bi eK aC eh ix cJ;go_wp2;refine bodyPost_ret (v:=.agg #[.slice D0 N6.ends.length d0,.slice D1 N6.ids.length d1,.slice D2 N6.ac1.length d2]) (by simp[results,Tryz.results73,go_sem, *]) rfl ?_;obtain⟨r1,r2,r3⟩:=cK.out;exact⟨_,_,_,N6,S6,rfl,r1,qW.out,r2.mono (by omega),r3⟩
 ·skip;go_wp2_with fail;refine(AB cb A L c (P+2) most M w1 gE.out (by omega) pT nh (by omega)).mono ?_;rintro e w6 ⟨BC,BE,BF,N6,S6,rfl,cJ,iw,eh,ix⟩;obtain⟨D0,d0,rfl,-,-,-⟩:=id cJ.read.1;obtain⟨D1,d1,rfl,-,-,-⟩:=id cJ.read.2.1;obtain⟨D2,d2,rfl,-,-,-⟩:=id cJ.read.2.2;have bi:CB cb B w0 w6:=lZ.out.trans (ix.mono eA)
  have eK:=bi.adb eY.out (by have:=fL.out;omega) (by omega)
  obtain⟨e0,e1,e2,f0,f1,f2⟩:=eK.box.cells;have aC:=cJ.mono eA;rw[fL.out]at aC bi;have cK:=zh (d_ f6.out aC eh bi ia);have qW:Hid (Bd N6):=iw.1.bd (by omega) (by omega);clear bi eK aC eh ix cJ;go_wp2;refine bodyPost_ret (v:=.agg #[.slice D0 N6.ends.length d0,.slice D1 N6.ids.length d1,.slice D2 N6.ac1.length d2]) (by simp[results,Tryz.results73,go_sem, *]) rfl ?_;obtain⟨r1,r2,r3⟩:=cK.out;exact⟨_,_,_,N6,S6,rfl,r1,qW.out,r2.mono (by omega),r3⟩
 ·skip;go_wp2_with fail;refine(oO cb A L c (P+2) most M w1 gE.out (by omega) pT nh (by omega)).mono ?_;rintro e w6 ⟨BC,BE,BF,N6,S6,rfl,cJ,iw,eh,ix⟩;obtain⟨D0,d0,rfl,-,-,-⟩:=id cJ.read.1;obtain⟨D1,d1,rfl,-,-,-⟩:=id cJ.read.2.1;obtain⟨D2,d2,rfl,-,-,-⟩:=id cJ.read.2.2;have bi:CB cb B w0 w6:=lZ.out.trans (ix.mono eA)
  have eK:=bi.adb eY.out (by have:=fL.out;omega) (by omega)
  obtain⟨e0,e1,e2,f0,f1,f2⟩:=eK.box.cells;have aC:=cJ.mono eA;rw[fL.out]at aC bi;have cK:=zh (d_ f6.out aC eh bi ia);have qW:Hid (Bd N6):=iw.1.bd (by omega) (by omega);clear bi eK aC eh ix cJ;go_wp2;refine bodyPost_ret (v:=.agg #[.slice D0 N6.ends.length d0,.slice D1 N6.ids.length d1,.slice D2 N6.ac1.length d2]) (by simp[results,Tryz.results73,go_sem, *]) rfl ?_;obtain⟨r1,r2,r3⟩:=cK.out;exact⟨_,_,_,N6,S6,rfl,r1,qW.out,r2.mono (by omega),r3⟩
 ·skip;go_wp2_with fail;refine(oO cb A L c (P+2) most M w1 gE.out (by omega) pT nh (by omega)).mono ?_;rintro e w6 ⟨BC,BE,BF,N6,S6,rfl,cJ,iw,eh,ix⟩;obtain⟨D0,d0,rfl,-,-,-⟩:=id cJ.read.1;obtain⟨D1,d1,rfl,-,-,-⟩:=id cJ.read.2.1;obtain⟨D2,d2,rfl,-,-,-⟩:=id cJ.read.2.2;have bi:CB cb B w0 w6:=lZ.out.trans (ix.mono eA)
  have eK:=bi.adb eY.out (by have:=fL.out;omega) (by omega)
  obtain⟨e0,e1,e2,f0,f1,f2⟩:=eK.box.cells;have aC:=cJ.mono eA;rw[fL.out]at aC bi;have cK:=zh (d_ f6.out aC eh bi ia);have qW:Hid (Bd N6):=iw.1.bd (by omega) (by omega);clear bi eK aC eh ix cJ;go_wp2;refine bodyPost_ret (v:=.agg #[.slice D0 N6.ends.length d0,.slice D1 N6.ids.length d1,.slice D2 N6.ac1.length d2]) (by simp[results,Tryz.results73,go_sem, *]) rfl ?_;obtain⟨r1,r2,r3⟩:=cK.out;exact⟨_,_,_,N6,S6,rfl,r1,qW.out,r2.mono (by omega),r3⟩
 ·skip;go_wp2_with fail;refine(Fc cb A L c (P+2) most M w1 gE.out (by omega) pT nh (by omega)).mono ?_;rintro e w6 ⟨BC,BE,BF,N6,S6,rfl,cJ,iw,eh,ix⟩;obtain⟨D0,d0,rfl,-,-,-⟩:=id cJ.read.1;obtain⟨D1,d1,rfl,-,-,-⟩:=id cJ.read.2.1;obtain⟨D2,d2,rfl,-,-,-⟩:=id cJ.read.2.2;have bi:CB cb B w0 w6:=lZ.out.trans (ix.mono eA)
  have eK:=bi.adb eY.out (by have:=fL.out;omega) (by omega)
  obtain⟨e0,e1,e2,f0,f1,f2⟩:=eK.box.cells;have aC:=cJ.mono eA;rw[fL.out]at aC bi;have cK:=zh (d_ f6.out aC eh bi ia);have qW:Hid (Bd N6):=iw.1.bd (by omega) (by omega);clear bi eK aC eh ix cJ;go_wp2;refine bodyPost_ret (v:=.agg #[.slice D0 N6.ends.length d0,.slice D1 N6.ids.length d1,.slice D2 N6.ac1.length d2]) (by simp[results,Tryz.results73,go_sem, *]) rfl ?_;obtain⟨r1,r2,r3⟩:=cK.out;exact⟨_,_,_,N6,S6,rfl,r1,qW.out,r2.mono (by omega),r3⟩
 ·skip;go_wp2_with fail;refine(LQ cb A L c (P+2) most M w1 gE.out (by omega) pT nh (by omega)).mono ?_;rintro e w6 ⟨BC,BE,BF,N6,S6,rfl,cJ,iw,eh,ix⟩;obtain⟨D0,d0,rfl,-,-,-⟩:=id cJ.read.1;obtain⟨D1,d1,rfl,-,-,-⟩:=id cJ.read.2.1;obtain⟨D2,d2,rfl,-,-,-⟩:=id cJ.read.2.2;have bi:CB cb B w0 w6:=lZ.out.trans (ix.mono eA)
  have eK:=bi.adb eY.out (by have:=fL.out;omega) (by omega)
  obtain⟨e0,e1,e2,f0,f1,f2⟩:=eK.box.cells;have aC:=cJ.mono eA;rw[fL.out]at aC bi;have cK:=zh (d_ f6.out aC eh bi ia);have qW:Hid (Bd N6):=iw;clear bi eK aC eh ix cJ;go_wp2;refine bodyPost_ret (v:=.agg #[.slice D0 N6.ends.length d0,.slice D1 N6.ids.length d1,.slice D2 N6.ac1.length d2]) (by simp[results,Tryz.results73,go_sem, *]) rfl ?_;obtain⟨r1,r2,r3⟩:=cK.out;exact⟨_,_,_,N6,S6,rfl,r1,qW.out,r2.mono (by omega),r3⟩
 ·skip;go_wp2_with fail;refine(Gv cb A L c (P+2) most M w1 gE.out (by omega) pT nh (by omega)).mono ?_;rintro e w6 ⟨BC,BE,BF,N6,S6,rfl,cJ,iw,eh,ix⟩;obtain⟨D0,d0,rfl,-,-,-⟩:=id cJ.read.1;obtain⟨D1,d1,rfl,-,-,-⟩:=id cJ.read.2.1;obtain⟨D2,d2,rfl,-,-,-⟩:=id cJ.read.2.2;have bi:CB cb B w0 w6:=lZ.out.trans (ix.mono eA)
  have eK:=bi.adb eY.out (by have:=fL.out;omega) (by omega)
  obtain⟨e0,e1,e2,f0,f1,f2⟩:=eK.box.cells;have aC:=cJ.mono eA;rw[fL.out]at aC bi;have cK:=zh (d_ f6.out aC eh bi ia);have qW:Hid (Bd N6):=iw.1.bd (by omega) (by omega);clear bi eK aC eh ix cJ;go_wp2;refine bodyPost_ret (v:=.agg #[.slice D0 N6.ends.length d0,.slice D1 N6.ids.length d1,.slice D2 N6.ac1.length d2]) (by simp[results,Tryz.results73,go_sem, *]) rfl ?_;obtain⟨r1,r2,r3⟩:=cK.out;exact⟨_,_,_,N6,S6,rfl,r1,qW.out,r2.mono (by omega),r3⟩
 ·skip;go_wp2_with fail;refine(Gv cb A L c (P+2) most M w1 gE.out (by omega) pT nh (by omega)).mono ?_;rintro e w6 ⟨BC,BE,BF,N6,S6,rfl,cJ,iw,eh,ix⟩;obtain⟨D0,d0,rfl,-,-,-⟩:=id cJ.read.1;obtain⟨D1,d1,rfl,-,-,-⟩:=id cJ.read.2.1;obtain⟨D2,d2,rfl,-,-,-⟩:=id cJ.read.2.2;have bi:CB cb B w0 w6:=lZ.out.trans (ix.mono eA)
  have eK:=bi.adb eY.out (by have:=fL.out;omega) (by omega)
  obtain⟨e0,e1,e2,f0,f1,f2⟩:=eK.box.cells;have aC:=cJ.mono eA;rw[fL.out]at aC bi;have cK:=zh (d_ f6.out aC eh bi ia);have qW:Hid (Bd N6):=iw.1.bd (by omega) (by omega);clear bi eK aC eh ix cJ;go_wp2;refine bodyPost_ret (v:=.agg #[.slice D0 N6.ends.length d0,.slice D1 N6.ids.length d1,.slice D2 N6.ac1.length d2]) (by simp[results,Tryz.results73,go_sem, *]) rfl ?_;obtain⟨r1,r2,r3⟩:=cK.out;exact⟨_,_,_,N6,S6,rfl,r1,qW.out,r2.mono (by omega),r3⟩
def Rh (cb B:Nat) (A:Option Addr) (L c P:Nat) (w:World) (e:Ending) (w':World):Prop:=∃a b p ve vi vn N S,e=.returned (.tuple #[.agg #[.int .i64 p.labels,.int .i64 p.degree,a,b],.agg #[ve,vi,vn]])/\eZ w' B a b p/\uB p/\au w' B ve vi vn N S/\Bd N/\bB w' cb A L c P/\CB cb B w w'
def adg (W:World) (b:Nat) (x y z u:Value):World:=(((W.setCell ⟨b,0,none⟩ x).setCell ⟨b,1,none⟩ y).setCell ⟨b,2,none⟩ z).setCell ⟨b,3,none⟩ u
theorem zH (W:World) (b:Nat) (x y z u:Value):(adg W b x y z u).heap.size=W.heap.size:=by simp[adg,gt]
theorem oZ (W:World) (b:Nat) (x y z u:Value) {j:Nat} (h:j≠b):(adg W b x y z u).heap[j]?=W.heap[j]?:=by
 unfold adg
 repeat rw[Below.heap_setCell _ _ _ j (by exact h)]
theorem aT.adg {W:World} {pb:Nat} {L D:Int} {a b:Value} (h:aT W pb L D a b) (L' D':Int) (a' b':Value):aT (adg W pb (.int .i64 L') (.int .i64 D') a' b') pb L' D' a' b':=
 (((h.adI L').adJ D').ady a').ac5 b'
structure xE (cb B pb nb:Nat) (A:Option Addr) (L c Q:Nat) (w0 W:World) (lb dg:Int) (a b:Value) (l m:List (List Int)) (ve vi vn:Value) (N:aw) (S:List Nat):Prop where
 pbx:aT W pb lb dg a b
 own:fS W B nb a b l m
 any:uB ⟨lb,dg,l,m⟩
 net:Mb cb B nb A L c Q w0 W ve vi vn N S
 bd:Bd N
section
variable {cb B pb nb : Nat} {A : Option Addr} {L c Q Q' : Nat} {w0 W W' : World} {lb dg : Int} {a b : Value} {l m : List (List Int)} {ve vi vn : Value} {N : aw} {S : List Nat}
theorem xE.seen (h:xE cb B pb nb A L c Q w0 W lb dg a b l m ve vi vn N S) (hs:aY cb W W') (xe:bB W' cb A L c Q') (hb:cb<B) (hp:B<=nb) (da:pb≠cb) (hB:B<=W.heap.size):xE cb B pb nb A L c Q' w0 W' lb dg a b l m ve vi vn N S:=
 ⟨h.pbx.seen hs da,h.own.seen hs hb,h.any,h.net.seen hs xe hb hp hB,h.bd⟩
theorem xE.up (h:xE cb B pb nb A L c Q w0 W lb dg a b l m ve vi vn N S) (hQ:Q<=Q'):xE cb B pb nb A L c Q' w0 W lb dg a b l m ve vi vn N S:=⟨h.pbx,h.own,h.any,h.net.mono hQ,h.bd⟩
theorem xE.assign {x y z:Value} {N':aw} {S':List Nat} {B':Nat} (h:xE cb B pb nb A L c Q w0 W lb dg a b l m ve vi vn N S) (hs:aY cb W W') (xe:bB W' cb A L c Q') (ho:au W' B' x y z N' S') (hB':nb<B') (hb:cb<B) (hp:B<=nb) (da:pb≠cb) (hpn:pb≠nb) (hB:B<=W.heap.size) (FF:Bd N'):xE cb B pb nb A L c Q' w0 (ac5 W' nb x y z) lb dg a b l m x y z N' S':=
 ⟨(h.pbx.seen hs da).blk (co _ _ _ _ _ hpn),(h.own.seen hs hb).ac4 fun j hj _ _=>co _ _ _ _ _ hj,h.any,h.net.assign hs xe ho hB' hb hp hB,FF⟩
end
theorem GU (cb:Nat) (A:Option Addr) (L c P most:Nat) (w:World) (hc:bB w cb A L c P) (hP:P<=2900000000000000000) (pT:1<=most/\most<=30):
  Calls Tryz.prog 28 #[.pointer (some ⟨cb,0,none⟩),.int .i64 most] w (Rh cb w.heap.size A L c (P+600000000000000000) w):=by
 have ia:=hc.lt;obtain⟨rb,fG⟩:∃z,z=w.heap.size:=⟨_,rfl⟩
 obtain⟨rn,Gn⟩:∃z,z=rb+1:=⟨_,rfl⟩
 obtain⟨xF,o7⟩:∃z,z=w.alloc (.cells #[.int .i64 0,.int .i64 0,.slice none 0 0,.slice none 0 0] 26):=⟨_,rfl⟩
 have Ds:aa w xF:=by rw[o7];exact ae _ (ad _)
 have uD:xF.heap.size=rn:=by rw[o7,Gn,fG];simp
 obtain⟨w0,ar⟩:∃z,z=xF.alloc (.cells #[.slice none 0 0,.slice none 0 0,.slice none 0 0] 30):=⟨_,rfl⟩
 have sj:aa xF w0:=by rw[ar];exact ae _ (ad _)
 have bu:aa w w0:=Ds.after sj
 have bG:aT w0 rb 0 0 (.slice none 0 0) (.slice none 0 0):=(show aT xF rb 0 0 (.slice none 0 0) (.slice none 0 0)by rw[o7,fG];exact aT.fresh _ _ _ _ _).ac2 sj
 have xU:bA w0 rn (.slice none 0 0) (.slice none 0 0) (.slice none 0 0):=by
  rw[ar,<- uD];show(xF.heap.push _)[xF.heap.size]?=_
  rw[Array.getElem?_push_size]
 obtain⟨B,hB⟩:∃z,z=rn+1:=⟨_,rfl⟩
 have eu:w0.heap.size=B:=by rw[ar,hB,<- uD];simp
 have Mn:=zh o7;have cS:=zh ar;have f6:=zh bu;have eY:=zh fG;have acK:=zh uD;have bQ:=zh bG;have Hn0:=zh xU;have gh:=zh eu;have xi:=zh (hc.since bu);have vr:Hid (cb<rb/\rn=rb+1/\B=rn+1):=⟨by omega,Gn,hB⟩;clear o7 ar bu Ds sj bG xU eu hc ia hB
 go_enter Tryz.func28,Tryz.ntmps28
 go_upto_region 1 with(fail);rw[<- Mn.out];rw[<- cS.out,<- eY.out,<- vr.out.2.1];clear fG uD Gn;go_wp2_with fail;refine(O7 cb A L c P w0 xi.out (by omega)).mono ?_;rintro e w1 ⟨d,rfl,hd,jc,ky⟩;have lZ:Hid (aY cb w0 w1):=ky;have gE:=zh jc;clear jc ky;go_wp2_with fail;refine(zC cb A L c (P+2) d w1 gE.out (by omega) hd).mono ?_;rintro e w2 ⟨a,b,p,rfl,aC,q9,lU,pX⟩
 obtain⟨A1,c1,rfl⟩:∃A c,a=.slice A p.nodes.length c:=by obtain⟨TN,TE,q1,-⟩:=aC;obtain⟨A,c,e,-⟩:=q1.form;exact⟨A,c,e⟩
 obtain⟨A2,c2,rfl⟩:∃A c,b=.slice A p.ac3.length c:=by obtain⟨TN,TE,-,q1,-⟩:=aC;obtain⟨A,c,e,-⟩:=q1.form;exact⟨A,c,e⟩
 have mC:uB p:=q9.any hd.2;obtain⟨lb,dg,l,m⟩:=p;obtain⟨pb,da⟩:∃z,z=w2.heap.size:=⟨_,rfl⟩
 obtain⟨w3,gZ⟩:∃z,z=w2.alloc (.cells #[.int .i64 lb,.int .i64 dg,.slice A1 l.length c1,.slice A2 m.length c2] 26):=⟨_,rfl⟩
 have gR:aa w2 w3:=by rw[gZ];exact ae _ (ad _)
 have mB:aY cb w0 w3:=aY.after (lZ.out.trans pX) gR
 have dP:B<=w1.heap.size:=by rw[<- gh.out];exact lZ.out.size
 have hx3:fS w3 (rn+1) pb (.slice A1 l.length c1) (.slice A2 m.length c2) l m:=(fS.of (aC.mono (by have:=vr.out;omega)) (by rw[da];exact Nat.le_refl _)).since gR
 have aG:aT w3 pb lb dg (.slice A1 l.length c1) (.slice A2 m.length c2):=by rw[gZ,da];exact aT.fresh _ _ _ _ _
 have cB:Hid (B<=pb):=by show _<=_;rw[da];have:=pX.size;omega
 have xY:Hid (pb<w3.heap.size):=by show _<_;rw[gZ,da];simp
 have wO:=zh gZ;have Hpe:=zh da;have ux:=zh mB;have Pb:=zh hx3;have pP:=zh aG;have yz:=zh mC;have i_:=zh (lU.since gR);clear gZ da gR mB dP hx3 aG mC lU pX aC q9;go_upto_region 3 with(fail);rw[<- wO.out,<- Hpe.out];go_wp2_with fail;refine(lF cb A L c _ 20 w3 i_.out (by omega) (by omega)).mono ?_;rintro e w4 ⟨bb,rfl,jd,j_⟩;have EY:Hid (aY cb w0 w4):=ux.out.trans j_
 have iM:pb≠cb:=by have:=cB.out;have:=vr.out;omega
 have kC:cb<B:=by have:=vr.out;omega
 have Hx4:=zh (Pb.out.seen j_ (by have:=vr.out;omega))
 have iu:=zh (pP.out.seen j_ iM);have kn:=zh jd;have tW:Hid (pb<w4.heap.size):=Nat.lt_of_lt_of_le xY.out j_.size;clear jd j_
 go_upto_if 15 with(fail)
 go_cut []from 16 to 18 (fun wx=>Yq cb rn pb A L c (P+4000) w0 wx/\pb<wx.heap.size)
 case first=>
  cases bb
  ·go_wp2;go_meet
   case rel=>exact⟨⟨_,_,_,_,l,m,iu.out,Hx4.out,yz.out,kn.out.mono (by omega),EY.out⟩,tW.out⟩
  ·go_wp2_with fail;refine(AJ cb A L c _ d w4 kn.out (by omega) hd).mono ?_;rintro e w5 ⟨a5,b5,p5,rfl,aC,Ni,km,pC⟩
   obtain⟨A5,c5,rfl⟩:∃A c,a5=.slice A p5.nodes.length c:=by obtain⟨TN,TE,q1,-⟩:=aC;obtain⟨A,c,e,-⟩:=q1.form;exact⟨A,c,e⟩
   obtain⟨A6,c6,rfl⟩:∃A c,b5=.slice A p5.ac3.length c:=by obtain⟨TN,TE,-,q1,-⟩:=aC;obtain⟨A,c,e,-⟩:=q1.form;exact⟨A,c,e⟩
   obtain⟨l5,g5,n5,m5⟩:=p5;have mP:=iu.out.seen pC iM;have Am:=zh mP;obtain⟨k0,k1,k2,k3⟩:=mP.cells;have f0:=frozen_of_row w5 _ 0 _ _ mP;have f1:=frozen_of_row w5 _ 1 _ _ mP;have f2:=frozen_of_row w5 _ 2 _ _ mP;have f3:=frozen_of_row w5 _ 3 _ _ mP;have ni:=zh aC;have Hpa:=zh Ni;have IV:=zh km;have HC5:Hid (aY cb w4 w5):=pC;clear mP aC Ni km pC;go_wp2;go_meet
   case rel=>
    have aH:∀j,w4.heap.size<=j->j≠pb:=fun j hj=>by have:=tW.out;omega
    obtain⟨TN,TE,q1,q2,q3⟩:=ni.out;have q1':=q1.bound;have q2':=q2.bound
    have hox:fS w5 (rn+1) pb (.slice A5 n5.length c5) (.slice A6 m5.length c6) n5 m5:=
     ⟨_,_,q1'.mono (by have:=vr.out;have:=cB.out;have:=tW.out;omega) fun _ h=>h,q2'.mono (by have:=vr.out;have:=cB.out;have:=tW.out;omega) fun _ h=>h,fun j h1 h2=>q3 j h1.1 h2.1,fun j h1=>aH j h1.2.1,fun j h1=>aH j h1.2.1⟩
    refine⟨⟨l5,g5,_,_,n5,m5,Am.out.adg _ _ _ _,hox.ac4 fun j hj _ _=>oZ _ _ _ _ _ _ hj,Hpa.out,(IV.out.mono (by omega)).ac2 fun j hj=>oZ _ _ _ _ _ _ (by have:=cB.out;omega),?_⟩,?_⟩
    ·have h1:CB cb B w0 w5:=(show CB cb B w0 w4 from EY.out.mono (by rw[gh.out];exact Nat.le_refl _)).trans (HC5.out.mono (by have:=cB.out;have:=tW.out;omega))
     have hp:=cB.out;show CB cb w0.heap.size w0 _
     rw[gh.out];exact(((h1.setCell (p:=⟨pb,0,none⟩) (.inl hp) _).setCell (p:=⟨pb,1,none⟩) (.inl hp) _).setCell (p:=⟨pb,2,none⟩) (.inl hp) _).setCell (p:=⟨pb,3,none⟩) (.inl hp) _
    ·show pb<(adg _ _ _ _ _ _).heap.size
     rw[zH];exact Nat.lt_of_lt_of_le tW.out HC5.out.size
 case rest=>
  obtain⟨⟨lx,dx,a,b,l6,m6,hb,hx,mC,df,hS⟩,GD⟩:=hcut
  obtain⟨A3,c3,rfl⟩:∃A c,a=.slice A l6.length c:=by obtain⟨TN,TE,q1,-⟩:=hx;obtain⟨A,c,e,-⟩:=q1.form;exact⟨A,c,e⟩
  obtain⟨A4,c4,rfl⟩:∃A c,b=.slice A m6.length c:=by obtain⟨TN,TE,-,q1,-⟩:=hx;obtain⟨A,c,e,-⟩:=q1.form;exact⟨A,c,e⟩
  obtain⟨w6,rfl⟩:∃z,z=wc:=⟨_,rfl⟩
  have vo:=zh hb;have Hx6:=zh hx;have Zp:=zh mC;have FC:=zh df;have Vi:=zh hS;have Hz6:=zh GD;clear hb hx mC df hS GD iu Hx4 yz kn EY tW;go_wp2_with fail;refine(Ps cb A L c _ most 38 w6 FC.out (by omega) pT.1 (by omega) (by omega)).mono ?_;rintro e w7 ⟨ve,vi,vn,N,S,rfl,Mo,Zq,Mp,Pt⟩;obtain⟨D0,d0,rfl,-,-,-⟩:=id Mo.read.1;obtain⟨D1,d1,rfl,-,-,-⟩:=id Mo.read.2.1;obtain⟨D2,d2,rfl,-,-,-⟩:=id Mo.read.2.2;obtain⟨nb,kV⟩:∃z,z=w7.heap.size:=⟨_,rfl⟩
  obtain⟨w8,r_⟩:∃z,z=w7.alloc (.cells #[.slice D0 N.ends.length d0,.slice D1 N.ids.length d1,.slice D2 N.ac1.length d2] 30):=⟨_,rfl⟩
  have lG:aa w7 w8:=by rw[r_];exact ae _ (ad _)
  have Zr:=Pt.size
  have xX:B<=w6.heap.size:=by have:=cB.out;have:=Hz6.out;omega
  have Zs:fS w8 B nb (.slice A3 l6.length c3) (.slice A4 m6.length c4) l6 m6:=by
   have h1:=(Hx6.out.seen (show aY cb w6 w7 from Pt) (by have:=vr.out;omega)).own lx dx
   exact(fS.of (h1.mono (by have:=vr.out;omega)) (by rw[kV];exact Nat.le_refl _)).since lG
  have xG:xE cb B pb nb A L c (P+4000+220000000000000000) w0 w8 lx dx (.slice A3 l6.length c3) (.slice A4 m6.length c4) l6 m6 (.slice D0 N.ends.length d0) (.slice D1 N.ids.length d1) (.slice D2 N.ac1.length d2) N S:=by
   refine⟨(vo.out.seen (show aY cb w6 w7 from Pt) iM).ac2 lG,Zs,Zp.out,⟨(Mo.ac2 lG.below).mono xX,by rw[r_,kV];exact aZ.new _ _ _ _ _,fun hj=>by have:=(Mo.range _ hj).2;omega,Mp.since lG,?_⟩,Zq⟩
   exact((show CB cb B w0 w6 from Vi.out.mono (by rw[gh.out];exact Nat.le_refl _)).trans (Pt.mono xX)).trans (CB.of (lG.below.mono (by omega)))
  have Mq:Hid (B<=nb/\pb≠nb):=⟨by omega,by have:=Hz6.out;omega⟩
  have X6:Hid (B<=w8.heap.size):=Nat.le_trans (Nat.le_trans xX Zr) lG.below.size;have Um:=zh xG;have Ti:=zh r_;have Co:=zh kV;clear Mo Zq Mp Pt kV r_ lG Zr xX Zs xG vo Hx6 Zp FC Vi;go_upto_region 6 with(fail);rw[<- Ti.out,<- Co.out];go_wp2_with fail;refine(lF cb A L c _ 2 w8 Um.out.net.cur (by omega) (by omega)).mono ?_;rintro e w9 ⟨b2,rfl,xA,Fx⟩;have xH:=zh (Um.out.seen Fx xA kC Mq.out.1 iM X6.out);have qT:Hid (B<=w9.heap.size):=Nat.le_trans X6.out Fx.size;clear xA Fx Um X6 Ti Co
  go_upto_if 23 with(fail)
  go_cut []from 24 to 36 (fun wx=>∃ve vi vn N S,xE cb B pb nb A L c (P+590000000000000000) w0 wx lx dx (.slice A3 l6.length c3) (.slice A4 m6.length c4) l6 m6 ve vi vn N S)
  case first=>
   cases b2
   ·go_wp2;go_meet
    case rel=>exact⟨_,_,_,N,S,xH.out.up (by omega)⟩
   ·go_wp2_with fail;refine(I8 cb A L c _ d w9 xH.out.net.cur (by omega) hd).mono ?_;rintro e nM ⟨ve,vi,vn,M,T,rfl,ho,hT,df,hC⟩;obtain⟨E0,e0,rfl,-,-,-⟩:=id ho.read.1;obtain⟨E1,e1,rfl,-,-,-⟩:=id ho.read.2.1;obtain⟨E2,e2,rfl,-,-,-⟩:=id ho.read.2.2;have hbM:Bd M:=hT.1.bd (by omega) (by omega);have Mr:=zh (xH.out.assign hC df ho xH.out.net.box.lt kC Mq.out.1 iM Mq.out.2 qT.out hbM);have DI:=hbM.ends
    obtain⟨k0,k1,k2,f0,f1,f2⟩:=(xH.out.net.box.blk (hC.block nb xH.out.net.box.lt (by have:=Mq.out;omega))).cells
    have FG:Hid (B<=nM.heap.size):=Nat.le_trans qT.out hC.size;clear ho hT df hC hbM;go_upto_region 8 with(fail);obtain⟨TF,Pu⟩:∃z,z=ac5 nM nb (.slice E0 M.ends.length e0) (.slice E1 M.ids.length e1) (.slice E2 M.ac1.length e2):=⟨_,rfl⟩
    rw[<- Pu]at Mr;rw[show((nM.setCell ⟨nb,0,none⟩ (.slice E0 M.ends.length e0)).setCell ⟨nb,1,none⟩ (.slice E1 M.ids.length e1)).setCell ⟨nb,2,none⟩ (.slice E2 M.ac1.length e2)=TF from Pu.symm]
    have Zt:Hid (B<=TF.heap.size):=by show _<=_;rw[Pu,dV];exact FG.out
    clear Pu k0 k1 k2 f0 f1 f2;obtain⟨k0,k1,k2,f0,f1,f2⟩:=Mr.out.net.box.cells
    by_cases hgt:most<M.ends.length
    ·have g1:((most:Int)<(M.ends.length:Int))=True:=by simp;omega
     go_wp2_with fail;refine(db cb A L c _ most TF Mr.out.net.cur (by omega) (by omega)).mono ?_;rintro e JD ⟨y,rfl,hy,df,hC⟩;have Ms:=zh (Mr.out.seen hC df kC Mq.out.1 iM Zt.out);have abA:Hid (B<=JD.heap.size):=Nat.le_trans Zt.out hC.size;obtain⟨k,hk⟩:∃k,k=1+y:=⟨_,rfl⟩
     have n1:IntKind.i64.wrap (1+(y:Int))=(k:Int):=by rw[aE _ (by omega) (by omega)];omega
     have Uk:1<=k/\k<=31:=by omega
     clear hy df hC hk k0 k1 k2 f0 f1 f2;go_wp2_with fail;refine(tY k Uk.1 (by omega) JD).mono ?_;rintro e YJ ⟨ve,vi,vn,T2,rfl,ho,hb⟩;have hcg:=(LW k Uk.1 (by omega)).bd (by omega) (by omega);obtain⟨M2,Yu⟩:∃z,z=fe k:=⟨_,rfl⟩
     rw[<- Yu]at ho hcg;obtain⟨F0,h0,rfl,-,-,-⟩:=id ho.read.1;obtain⟨F1,h1,rfl,-,-,-⟩:=id ho.read.2.1;obtain⟨F2,h2,rfl,-,-,-⟩:=id ho.read.2.2;have Do:aa JD YJ:=hb;have abB:=zh (Ms.out.assign (CB.of Do) (Ms.out.net.cur.since Do) ho Ms.out.net.box.lt kC Mq.out.1 iM Mq.out.2 abA.out hcg);obtain⟨k0,k1,k2,f0,f1,f2⟩:=(Ms.out.net.box.below Do Ms.out.net.box.lt).cells;clear ho hb hcg Do Yu;go_wp2;go_meet
     case rel=>exact⟨_,_,_,M2,T2,abB.out.up (by omega)⟩
    ·have g1:((most:Int)<(M.ends.length:Int))=False:=by simp;omega
     go_wp2;go_meet
     case rel=>exact⟨_,_,_,M,T,Mr.out.up (by omega)⟩
  case rest=>
   obtain⟨ve,vi,vn,M,T,xG⟩:=hcut;obtain⟨E0,e0,rfl,-,-,-⟩:=id xG.net.own.read.1;obtain⟨E1,e1,rfl,-,-,-⟩:=id xG.net.own.read.2.1;obtain⟨E2,e2,rfl,-,-,-⟩:=id xG.net.own.read.2.2;obtain⟨DJ,rfl⟩:∃z,z=wc:=⟨_,rfl⟩
   have bi:CB cb B w0 DJ:=xG.net.far
   have gW:aT DJ rb 0 0 (.slice none 0 0) (.slice none 0 0):=bQ.out.blk (bi.block rb (by have:=vr.out;omega) (by have:=vr.out;omega))
   have nK:bA DJ rn (.slice none 0 0) (.slice none 0 0) (.slice none 0 0):=bi.adb Hn0.out (by have:=vr.out;omega) (by have:=vr.out;omega)
   have o_:=zh xG;have HB0:=zh gW;have HN0:=zh nK;obtain⟨k0,k1,k2,k3⟩:=xG.pbx.cells;obtain⟨j0,j1,j2,-,-,-⟩:=xG.net.box.cells;obtain⟨r0,r1,r2,r3⟩:=gW.cells;have f0:=frozen_of_row DJ _ 0 _ _ gW;have f1:=frozen_of_row DJ _ 1 _ _ gW;have f2:=frozen_of_row DJ _ 2 _ _ gW;have f3:=frozen_of_row DJ _ 3 _ _ gW;obtain⟨s0,s1,s2,t0,t1,t2⟩:=nK.box.cells;clear xG bi gW nK xH
   have v1:(rn=rb)=False:=by simp;have:=vr.out;omega
   have v3:(nb=rb)=False:=by simp;have:=vr.out;have:=Mq.out;omega
   have v4:(nb=rn)=False:=by simp;have:=vr.out;have:=Mq.out;omega
   have v5:(pb=rb)=False:=by simp;have:=vr.out;have:=cB.out;omega
   have v6:(pb=rn)=False:=by simp;have:=vr.out;have:=cB.out;omega
   have v7:(rb=nb)=False:=by simp;have:=vr.out;have:=Mq.out;omega
   have v8:(rn=nb)=False:=by simp;have:=vr.out;have:=Mq.out;omega
   have v9:(rb=pb)=False:=by simp;have:=vr.out;have:=cB.out;omega
   have v0:(rn=pb)=False:=by simp;have:=vr.out;have:=cB.out;omega
   have v2:(rb=rn)=False:=by simp;have:=vr.out;omega
   go_upto_region 10 with(fail)
   go_region
   go_wp2;refine bodyPost_ret (v:=.tuple #[.agg #[.int .i64 lx,.int .i64 dx,.slice A3 l6.length c3,.slice A4 m6.length c4],.agg #[.slice E0 M.ends.length e0,.slice E1 M.ids.length e1,.slice E2 M.ac1.length e2]]) (by simp[results,Tryz.results28,go_sem, *]) rfl ?_;have hE:=vr.out;have acL:=eY.out
   have ct:∀j,j≠rb->j≠rn->(ac5 (adg DJ rb (.int .i64 lx) (.int .i64 dx) (.slice A3 l6.length c3) (.slice A4 m6.length c4)) rn (.slice E0 M.ends.length e0) (.slice E1 M.ids.length e1) (.slice E2 M.ac1.length e2)).heap[j]?=DJ.heap[j]?:=fun j h1 h2=>by
    rw[co _ _ _ _ _ h2,oZ _ _ _ _ _ _ h1]
   obtain⟨wf,OL⟩:∃z,z=ac5 (adg DJ rb (.int .i64 lx) (.int .i64 dx) (.slice A3 l6.length c3) (.slice A4 m6.length c4)) rn (.slice E0 M.ends.length e0) (.slice E1 M.ids.length e1) (.slice E2 M.ac1.length e2):=⟨_,rfl⟩
   rw[<- OL]at ct
   have ia:CB cb w.heap.size w wf:=by
    rw[OL];have h1:CB cb w.heap.size w DJ:=(CB.of f6.out.below).trans (o_.out.net.far.mono (by omega))
    have h2:=(((h1.setCell (p:=⟨rb,0,none⟩) (.inl (by show _<=rb;omega)) (.int .i64 lx)).setCell (p:=⟨rb,1,none⟩) (.inl (by show _<=rb;omega)) (.int .i64 dx)).setCell (p:=⟨rb,2,none⟩) (.inl (by show _<=rb;omega)) (.slice A3 l6.length c3)).setCell (p:=⟨rb,3,none⟩) (.inl (by show _<=rb;omega)) (.slice A4 m6.length c4)
    exact((h2.setCell (p:=⟨rn,0,none⟩) (.inl (by show _<=rn;omega)) (.slice E0 M.ends.length e0)).setCell (p:=⟨rn,1,none⟩) (.inl (by show _<=rn;omega)) (.slice E1 M.ids.length e1)).setCell (p:=⟨rn,2,none⟩) (.inl (by show _<=rn;omega)) (.slice E2 M.ac1.length e2)
   show Rh cb w.heap.size A L c (P+600000000000000000) w _ (World.drew (ac5 (adg DJ rb (.int .i64 lx) (.int .i64 dx) (.slice A3 l6.length c3) (.slice A4 m6.length c4)) rn (.slice E0 M.ends.length e0) (.slice E1 M.ids.length e1) (.slice E2 M.ac1.length e2)))
   rw[<- OL];have Jn:aa wf wf.drew:=ag (ad _);have qc:eZ wf B (.slice A3 l6.length c3) (.slice A4 m6.length c4) ⟨lx,dx,l6,m6⟩:=eZ.ac4 (o_.out.own.own lx dx) fun j q1 _=>ct j (by omega) (by omega)
   refine⟨_,_,⟨lx,dx,l6,m6⟩,_,_,_,M,T,rfl,(qc.since Jn).mono (by omega),o_.out.any,((o_.out.net.own.ac4 fun j hj=>ct j (by have:=(o_.out.net.own.range j hj).1;omega) (by have:=(o_.out.net.own.range j hj).1;omega)).ac2 Jn.below).mono (by omega),o_.out.bd,?_,ia.trans (CB.of (Jn.below.mono ia.size))⟩
   exact(((o_.out.net.cur.ac2 fun j hj=>ct j (by omega) (by omega)).since Jn).mono (by omega))
end Go.Proofs.YtnioemnkfojmkaaGreat
