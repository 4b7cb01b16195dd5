/- Parts of the proof: walks of functions and plain laws. -/
import Derived.Test.YtnioemnkfojmkaaGreatP6
import Derived.Deep.CutRange
set_option maxRecDepth 100000
set_option maxHeartbeats 16000000
namespace Go.Proofs.YtnioemnkfojmkaaGreat
open Go Go.RowKit
theorem fF.put {w:World} {b:Nat} {vs:Array Value} (h:fF w b vs) (i:Nat) (u:Value):fF (w.setCell ⟨b,i,none⟩ u) b (vs.setIfInBounds i u):=by
 obtain⟨r,h⟩:=h;refine⟨r,?_⟩;simp[World.setCell,Zbf,h]
theorem fF.grown {w w':World} {b:Nat} {vs:Array Value} {row:Option Nat} (h:fF w b vs) (hg:w.grownBy w' row) (hb:some b≠row):fF w' b vs:=by
 have aA:=h.lt;obtain⟨r,h'⟩:=h;exact⟨r,(hg.block b aA hb).trans h'⟩
theorem Ra {w:World} {ops:Array Oper} {rest:List Oper} {o:Oper} {a:Act} {Q:Exit->Act->World->Prop} (gT:o.guard=none) (s x:Operand)
  (ho:o.op=.call { callee:=.builtin .append,args:=#[s,x],argTypes:=#[59,59] }) {base:Nat} {v:Value} {xs:List (Int×Int)} (hs:a.eval s=v) (h:∃T,eE w base v xs T) (b:Nat) (y:Int×Int)
  (hx:a.eval x=.slice (some ⟨b,0,none⟩) 1 1) (hc:w.cell? ⟨b,0,none⟩=some (.int .i64 y.1)) (dk:w.cell? ⟨b,1,none⟩=some (.int .i64 y.2)) (hl:xs.length+1<=1000000) (kj:base<=w.heap.size)
  (k:∀g cap w',(∃T,eE w' base (.slice (some ⟨g,0,none⟩) (xs.length+1) cap) (xs++[y]) T)->w.grownBy w' v.ownBlock->(∀j,v.ownBlock=some j->base<=j)->base<=g->wpList Tryz.prog ops Q rest (a.put o.dst (.slice (some ⟨g,0,none⟩) (xs.length+1) cap)) w'):wpList Tryz.prog ops Q (o::rest) a w:=by
 obtain⟨i0,hi,e_,dP,dY⟩:=info_parts zv;obtain⟨T,h⟩:=h
 refine wpList_append_lies w gT s x 59 ho base 104 i0 _ 2 16 Tryz.underlying59 hi e_ dP dY rfl (by decide) v xs.length (xs.flatMap oO) hs h.1 ⟨b,0,none⟩ 1 1 [.int .i64 y.1,.int .i64 y.2] hx rfl
  (by intro j u hj;match j,hj with | 0,hj=>(simp at hj;subst hj;simpa[Addr.add]using hc) | 1,hj=>(simp at hj;subst hj;simpa[Addr.add]using dk) | j+2,hj=>simp at hj) (by simp[Value.oneCell']) zO (by unfold maxLen;omega) zO kj w.heap.size rfl ?_
 intro g cap w' q1 q2 q3 q4;have hq:w'.ownsRow base 104 2 (.slice (some ⟨g,0,none⟩) (xs.length+1) cap) (xs++[y]).length ((xs++[y]).flatMap oO):=by simpa[oO]using q1
 exact k g cap w' ⟨_,hq,rfl⟩ q2 (fun j hj=>(Zad h.1 j hj).1) (Zad hq g rfl).1
theorem ro (v:Value) (ep:List (List Int)) (w:World) (B:Nat) (hB:B<=w.heap.size) (h:bS w v ep) (qs:ep.length<=1048576) (hr:∀(v:Nat) (row:List Int),ep[v]?=some row->row.length<=17592186044416):
  Calls Tryz.prog 49 #[v] w fun e w'=>∃u S,e=.returned u/\bu w' B u ep S/\Below w.heap.size w w':=(CQ v ep w h qs hr).mono fun _ _ ⟨u,S,h1,h2,h3⟩=>⟨u,S,h1,aL.mono h2 hB,h3⟩
def uV (p:aq) (pa pb va vb vc ul uf:Value) (st:Int):Array Value:=#[.int .i64 p.labels,.int .i64 p.degree,pa,pb,va,vb,vc,ul,uf,.int .i64 st]
theorem DE (v:Nat) (row:List Int) (k:Nat):(lE v row k).length<=k:=by
 unfold lE;rw[List.length_map];exact Zak (List.length_filter_le _ _) zS
theorem GL {l:List (List Int)} (h:∀(v:Nat) (row:List Int),l[v]?=some row->row.length<=6) (k:Nat):(kX l k).length<=6*k:=by
 induction k with
 | zero=>simp[kX]
 | succ k ih=>
  rw[zI,Zay]
  have:(zH k (l.getD k [])).length<=6:=by
   have h1:=DE k (l.getD k []) (l.getD k []).length
   have h2:(l.getD k []).length<=6:=by
    cases hk:l[k]? with
    | none=>simp[zDd,hk]
    | some row=>rw[ag hk];exact h k row hk
   exact Zak h1 h2
  omega
def jc (w:World) (sb:Nat) (vs:Array Value) (l:List (List Int)) (av:List (Int×Int)) (ul uf:Value) (SL:List Nat) (B:Nat):Prop:=
 fF w sb vs/\bu w B ul l SL/\(∀k∈SL,k<sb)/\∃T,eE w (sb+1) uf av T
theorem jc.push {wr w3:World} {sb:Nat} {vs:Array Value} {l:List (List Int)} {av:List (Int×Int)} {ul uf:Value} {SL:List Nat} {B:Nat} {o:Obj} (h:jc wr sb vs l av ul uf SL B) {y:Int×Int} {g cap:Nat}
  (gZ:∃T,eE w3 (sb+1) (.slice (some ⟨g,0,none⟩) (av.length+1) cap) (av++[y]) T) (xG:(wr.alloc o).grownBy w3 uf.ownBlock) (hv3:∀j,uf.ownBlock=some j->sb+1<=j) (hs:sb+1<=wr.heap.size):
  fF w3 sb vs/\jc (w3.setCell ⟨sb,8,none⟩ (.slice (some ⟨g,0,none⟩) (av.length+1) cap)) sb (vs.setIfInBounds 8 (.slice (some ⟨g,0,none⟩) (av.length+1) cap)) l (av++[y]) ul (.slice (some ⟨g,0,none⟩) (av.length+1) cap) SL B /\
   (∀w0:World,ab w0 wr->w0.heap.size<=sb->ab w0 (w3.setCell ⟨sb,8,none⟩ (.slice (some ⟨g,0,none⟩) (av.length+1) cap)))/\sb+1<=(w3.setCell ⟨sb,8,none⟩ (.slice (some ⟨g,0,none⟩) (av.length+1) cap)).heap.size:=by
 obtain⟨h1,h2,h3,h4⟩:=h
 have hb:fF w3 sb vs:=(h1.alloc o).grown xG (fun e=>zX (hv3 sb e.symm))
 have fD:wr.heap.size<=w3.heap.size:=by have:=xG.size;simp at this;omega
 refine⟨hb,⟨hb.put 8 _,?_,h3,?_⟩,?_,by rw[iC];omega⟩
 ·refine aL.agV h2 fun k hk=>?_
  have lW:=h3 k hk
  rw[Zan _ _ _ k (by show k≠sb;omega),xG.block k (by simp;omega) (fun e=>zX (hv3 k e.symm))]
  exact Below.heap_alloc wr o k zO
 ·obtain⟨T,gZ⟩:=gZ
  exact⟨T,eG.put gY gZ (by show sb<sb+1;omega) _⟩
 ·intro w0 bj EB
  refine Below.setCell (Below.grown (ab.below (ad o bj)) xG ?_ (fun j hj=>zX (hv3 j hj))) (by show w0.heap.size<=sb;exact EB) _
  have:=(ab.below bj).size
  simp;omega
theorem CR (pa pb ve vi vn vl:Value) (p:aq) (n:ao) (l:List (List Int))  (w:World) (hp:el w pa pb p) (h:aR w ve vi vn n) (hl:bS w vl l) (yp:l.length<=40) (Q6:∀(v:Nat) (row:List Int),l[v]?=some row->row.length<=6):
  Calls Tryz.prog 35 #[.agg #[.int .i64 p.labels,.int .i64 p.degree,pa,pb],.agg #[ve,vi,vn],vl] w fun e w'=>∃sb ul uf SL,e=.returned (.pointer (some ⟨sb,0,none⟩))/\jc w' sb (uV p pa pb ve vi vn ul uf 0) l (gb l) ul uf SL w.heap.size/\w.heap.size<=sb/\Below w.heap.size w w':=by
 obtain⟨w0,A,c,A2,c2,A3,c3,P0,iG,P1,it,rfl,rfl,rfl,fR,hm,gC,jz,HA,H,rfl,rfl,jj,jk,jl,jm,jn,jo,HP,cD,aY,fp,fE,fM,ku,nY,oW,oX⟩:=Ah hp h;clear hp h
 have HL:=zh (hl.agU aY.out);obtain⟨AL,cL,rfl,hlL,VR,-⟩:=hl;unfold maxLen at VR;have Hr6:=zh Q6
 have Hfl:Hid (∀(k j:Nat) (row:List Int),k<=l.length->j<=6->(kX l k++lE k row j).length+1<=1000000):=by
  intro k j row hk hj;have h1:=GL Q6 k;have h2:=DE k row j;rw[Zay];omega
 clear Q6
 go_enter Tryz.func35,Tryz.ntmps35
 go_upto_region 1 with(fail);rw[<- cD.out];refine dO (w0:=w0) 6 [false,false,false,true,true,true] zK zK (aa _) ?_;simp only[ew,dM,zT]
 iterate 3 (apply ef rfl;(intro W hW;go_simp;with_reducible rfl);simp only[zA])
 intro W hW;refine Or.inl ⟨rfl,?_⟩
 go_simp
 (with_reducible refine(ro _ l W w0.heap.size hW.below.size (HL.out.agU hW.below) zO (fun v row hv=>Zak (Hr6.out v row hv) zO)).mono ?_)
 rintro e W' ⟨ul,SL,rfl,ho,hb⟩;refine⟨_,rfl,hW.trans hb,?_⟩
 replace hW:=hW.trans hb
 obtain⟨AU,mU,cU,rfl⟩:=aL.one ho;have abK:=aL.range ho;have HO:=zh ho;have FT:Hid (w0.heap.size<=W'.heap.size):=(ab.below hW).size;have HSL:Hid (∀k∈SL,k<W'.heap.size):=fun k hk=>(abK k hk).2
 clear ho hb abK
 (try simp only[zA])
 refine fj (v:=?_) rfl ?_ hW ?_;rotate_left;(go_simp;with_reducible rfl)
 simp only[zA]
 refine nD (v:=?_) (ob:=?_) rfl ?_ hW ?_;rotate_left 2
 (go_simp;first | with_reducible rfl | (refine⟨?_,?_⟩ <;> with_reducible rfl))
 intro w8 k9 mD
 replace hW:=mD
 clear mD;skip
 (try simp only[zA])
 simp only[bP];obtain⟨sb,FS⟩:=J_ W'.heap.size
 rw[<- FS]
 have hBx:fF w8 sb (uV p (.slice P0 p.nodes.length iG) (.slice P1 p.agW.length it) (.slice A n.ends.length c) (.slice A2 n.ids.length c2) (.slice A3 n.agT.length c3) (.slice AU mU cU) (.slice none 0 0) 0):=by rw[k9,FS];exact fF.new _ _ _
 have abL:Below W'.heap.size W' w8:=by rw[k9];exact am _ _
 have abM:w8.heap.size=sb+1:=by rw[k9,FS];simp
 have Kf:jc w8 sb (uV p (.slice P0 p.nodes.length iG) (.slice P1 p.agW.length it) (.slice A n.ends.length c) (.slice A2 n.ids.length c2) (.slice A3 n.agT.length c3) (.slice AU mU cU) (.slice none 0 0) 0) l [] (.slice AU mU cU) (.slice none 0 0) SL w0.heap.size:=⟨hBx,aL.agU HO abL,by rw[FS];exact HSL,⟨_,World.ownsRow_nil _ _ _ _,rfl⟩⟩
 obtain⟨PY,j6,HW8⟩:=B_ Kf abM hW
 have abN:Hid (w0.heap.size<=sb):=by
  show _<=_
  rw[FS];exact FT
 clear k9 FS hBx abL abM Kf hW HO HSL;go_wp2
 go_loopw [19] (fun i wr=>∃(k:Nat) (uf:Value),k<=l.length/\i=.int .i64 k/\jc wr sb (uV p (.slice P0 p.nodes.length iG) (.slice P1 p.agW.length it) (.slice A n.ends.length c) (.slice A2 n.ids.length c2) (.slice A3 n.agT.length c3) (.slice AU mU cU) uf 0) l (kX l k) (.slice AU mU cU) uf SL w0.heap.size/\ab w0 wr/\sb+1<=wr.heap.size) (fun i _=>l.length-(intOf i).toNat)
 case atStart=>exact⟨0,_,Zac _,rfl,PY,HW8,Nat.le_of_eq j6.symm⟩
 case round=>
  obtain⟨k,uf,hk,rfl,Kf,hb,fD⟩:=hrel;obtain⟨PY,Hb,kR⟩:=B_ Kf hb fD;clear Kf hb fD
  by_cases aA:k<l.length
  ·obtain⟨row,b,off,A1,z1,hx,rfl,dk,dP,dY,na⟩:=fw HL aA;have q1:=ae dk;have hq:=q1 _ Hb;have abO:=Hr6 k row hx;obtain⟨dT,HX⟩:=A_ hx na;clear dk na hx;go_upto_region 6 with(fail)
   go_loopw [27] (fun i wr=>∃(j:Nat) (uf:Value),j<=row.length/\i=.int .i64 j/\jc wr sb (uV p (.slice P0 p.nodes.length iG) (.slice P1 p.agW.length it) (.slice A n.ends.length c) (.slice A2 n.ids.length c2) (.slice A3 n.agT.length c3) (.slice AU mU cU) uf 0) l (kX l k++lE k row j) (.slice AU mU cU) uf SL w0.heap.size/\ab w0 wr/\sb+1<=wr.heap.size) (fun i _=>row.length-(intOf i).toNat)
   case atStart=>exact⟨0,uf,Zac _,rfl,by have:=PY.out;simpa[lE]using this,Hb.out,kR.out⟩
   case round=>
    obtain⟨j,ug,hj,rfl,Kf,hb,fD⟩:=hrel;obtain⟨Zy,Hbj,Kg⟩:=B_ Kf hb fD;clear Kf hb fD hq
    by_cases FR:j<row.length
    ·obtain⟨A',c',e,-,-,ja⟩:=HX.out;cases e;obtain⟨x,b1,CH,hx,rfl,ti⟩:=fv ja FR;have hqx:=ae ti _ Hbj
     have Hfs:Hid (lE k row (j+1)=lE k row j++(if x<0 then [((k:Int),(j:Int))] else [])):=by show _=_;rw[Gy,ag hx]
     clear hx ti ja
     by_cases nG:x<0
     ·have ii:=zh (Hfl.out k j row hk zO);obtain⟨PL,hPL⟩:=J_ (kX l k++lE k row j)
      rw[<- hPL]at Zy ii;have HPL:=zh hPL;clear hPL;have d8:=(Zy.1.cell 8 ug rfl).1
      have pQ:sb+1<=(wr.alloc (.cells #[.int .i64 k,.int .i64 j] 104)).heap.size:=by have:=Kg.out;simp;omega
      have HoE:Hid (∃T,eE (wr.alloc (.cells #[.int .i64 k,.int .i64 j] 104)) (sb+1) ug PL T):=by
       obtain⟨T,hT⟩:=Zy.2.2.2;exact⟨T,gY.agU hT (am _ _)⟩
      have py:=zh pQ;clear pQ;have d8b:(wr.alloc (.cells #[.int .i64 k,.int .i64 j] 104)).cell? ⟨sb,8,none⟩=some ug:=((Zy.1.alloc _).cell 8 ug rfl).1
      go_wp2_with (at_builtin;refine Ra rfl _ _ rfl rfl HoE wr.heap.size ((k:Int),(j:Int)) rfl (by simp[go_sem]) (by simp[go_sem]) ii py ?_;intro g cap w3 gZ xG hv3 ad4;obtain⟨kb,kk1,kk2,kk3⟩:=jc.push Zy gZ xG hv3 Kg;have hd3:=(kb.cell 8 ug rfl).1;have hf3:=(kb.cell 8 ug rfl).2;have Hk1:=zh kk1;have Hk2:=zh kk2;have Hk3:=zh kk3;clear kk1 kk2 kk3 gZ xG hv3 ad4 kb)
      go_roundw
      exact⟨j+1,_,zO,zM,by rw[Hfs.out,if_pos nG,<- List.append_assoc,<- HPL.out];exact Hk1,Hk2 w0 Hbj abN,Hk3⟩
      simp[intOf];omega
     ·go_wp2;go_roundw
      exact⟨j+1,ug,zO,zM,by rw[Hfs.out,if_neg nG,List.append_nil];exact Zy,Hbj,Kg⟩
      simp[intOf];omega
    ·obtain rfl:j=row.length:=zO
     have Hn:Hid (kX l (k+1)=kX l k++lE k row row.length):=by show _=_;rw[zI,ag dT.out];rfl
     go_wp2;go_roundw
     exact⟨k+1,ug,zO,zM,by rw[Hn.out];exact Zy,Hbj,Kg⟩
     simp[intOf];omega
  ·obtain rfl:k=l.length:=zO
   have Hf:Hid (jc wr sb (uV p (.slice P0 p.nodes.length iG) (.slice P1 p.agW.length it) (.slice A n.ends.length c) (.slice A2 n.ids.length c2) (.slice A3 n.agT.length c3) (.slice AU mU cU) uf 0) l (gb l) (.slice AU mU cU) uf SL w0.heap.size):=PY;have hwb:=aY.size;go_wp2;go_ret;exact⟨sb,_,uf,SL,rfl,⟨Hf.1,aL.mono Hf.2.1 hwb,Hf.2.2⟩,Zak hwb abN,ab.after aY Hb⟩
theorem jc.ag9 {w w':World} {sb:Nat} {vs:Array Value} {l:List (List Int)} {av:List (Int×Int)} {ul uf:Value} {SL:List Nat} {B:Nat} (h:jc w sb vs l av ul uf SL B) (hb:Below w.heap.size w w'):jc w' sb vs l av ul uf SL B:=by
 obtain⟨h1,h2,h3,T,h4⟩:=h;exact⟨h1.below hb h1.lt,aL.agU h2 hb,h3,T,gY.agU h4 hb⟩
theorem jc.rows {w:World} {sb:Nat} {vs:Array Value} {l:List (List Int)} {av:List (Int×Int)} {ul uf:Value} {SL:List Nat} {B:Nat} (h:jc w sb vs l av ul uf SL B):bS w ul l:=by
 obtain⟨-,h2,-⟩:=h;exact h2.read
theorem jc.field {w:World} {sb:Nat} {vs:Array Value} {l:List (List Int)} {av:List (Int×Int)} {ul uf:Value} {SL:List Nat} {B:Nat} (h:jc w sb vs l av ul uf SL B) (hB:B<=sb) (i:Nat) (u:Value):
  jc (w.setCell ⟨sb,i,none⟩ u) sb (vs.setIfInBounds i u) l av ul uf SL B/\Below B w (w.setCell ⟨sb,i,none⟩ u)/\aV (sb::SL) w (w.setCell ⟨sb,i,none⟩ u):=by
 obtain⟨h1,h2,h3,T,h4⟩:=h;have aA:=h1.lt
 refine⟨⟨h1.put i u,aL.agV h2 fun k hk=>Zan _ _ _ k (by have:=h3 k hk;show k≠sb;omega),h3,T,eG.put gY h4 (by show sb<sb+1;omega) u⟩,(Zaf _ _).setCell (show B<=sb from hB) u,(aV.refl _ _).setCell (.inl zS) u⟩
theorem jc.label {w:World} {sb:Nat} {vs:Array Value} {l:List (List Int)} {av:List (Int×Int)} {ul uf:Value} {SL:List Nat} {B:Nat} (h:jc w sb vs l av ul uf SL B) {v i:Nat} {row:List Int} {x:Int} (hv:l[v]?=some row) (hi:row[i]?=some x):
  ∃gl cl gr cr,ul=.slice (some ⟨gl,0,none⟩) l.length cl/\w.cell? ⟨gl,v,none⟩=some (.slice (some ⟨gr,0,none⟩) row.length cr)/\w.cell? ⟨gr,i,none⟩=some (.int .i64 x)/\w.frozen? ⟨gr,i,none⟩=false/\gr∈SL /\
   ∀y,jc (w.setCell ⟨gr,i,none⟩ (.int .i64 y)) sb vs (dX l ((v:Int),(i:Int)) y) av ul uf SL B/\Below B w (w.setCell ⟨gr,i,none⟩ (.int .i64 y))/\aV (sb::SL) w (w.setCell ⟨gr,i,none⟩ (.int .i64 y)):=by
 obtain⟨h1,h2,h3,T4,h4⟩:=h;have hr:=h2.read;obtain⟨AL,cl,rfl,lC,-,-⟩:=hr
 have abP:∃gl,AL=some ⟨gl,0,none⟩:=by
  obtain⟨vs',Ss,r1,-⟩:=h2;rcases cj r1 with⟨e,h0⟩ | ⟨g,c,e,-⟩
  ·have:=ah hv;omega
  ·cases e;exact⟨g,rfl⟩
 obtain⟨gl,rfl⟩:=abP;obtain⟨u,T,c1,hu,hT,kh⟩:=aZ.ahn fT h2 hv;obtain⟨PZ,hTe⟩:=hu;rcases PZ.cases with⟨rfl,h0⟩ | ⟨gr,cr,rfl,tC,ut⟩
 ·subst h0;simp at hi
 ·have CI:gr∈T:=by rw[hTe];simp[Value.ownBlock]
  have zr:=hT gr CI;have af_:=h3 gr zr;refine⟨gl,cl,gr,cr,rfl,c1,PZ.cell hi,PZ.free i,zr,fun y=>?_⟩
  have eB:aV T w (w.setCell ⟨gr,i,none⟩ (.int .i64 y)):=(aV.refl _ _).setCell (.inl CI) _
  have hn:=kh (row.set i y) _ ⟨by have:=PZ.set (k:=i) y;simpa using this,hTe⟩ eB
  refine⟨⟨h1.set (by show gr≠sb;omega),?_,h3,T4,eG.put gY h4 (by show gr<sb+1;omega) _⟩,(Zaf _ _).setCell (show B<=gr from(aL.range h2 gr zr).1) _,(aV.refl _ _).setCell (.inl (Zbd _ zr)) _⟩
  unfold dX;simp only[Zag];rw[ag hv];have e:(l.set v (row.set i y)).length=l.length:=Zau;exact hn
theorem iL {W:World} {sb:Nat} {p:aq} {pa pb va vb vc ul uf:Value} {st:Int} (h:fF W sb (uV p pa pb va vb vc ul uf st)):W.cell? ⟨sb,0,none⟩=some (.int .i64 p.labels)/\W.cell? ⟨sb,1,none⟩=some (.int .i64 p.degree)/\W.cell? ⟨sb,2,none⟩=some (pa)/\W.cell? ⟨sb,3,none⟩=some (pb)/\W.cell? ⟨sb,4,none⟩=some (va)/\W.cell? ⟨sb,5,none⟩=some (vb)/\W.cell? ⟨sb,6,none⟩=some (vc)/\W.cell? ⟨sb,7,none⟩=some (ul)/\W.cell? ⟨sb,8,none⟩=some (uf)/\W.cell? ⟨sb,9,none⟩=some (.int .i64 st):=
 ⟨(h.cell 0 _ rfl).1,(h.cell 1 _ rfl).1,(h.cell 2 _ rfl).1,(h.cell 3 _ rfl).1,(h.cell 4 _ rfl).1,(h.cell 5 _ rfl).1,(h.cell 6 _ rfl).1,(h.cell 7 _ rfl).1,(h.cell 8 _ rfl).1,(h.cell 9 _ rfl).1⟩
def Ju (hi:Int) (l:List (List Int)):Prop:=∀(v:Nat) (row:List Int) (i:Nat) (x:Int),l[v]?=some row->row[i]?=some x -> -1<=x/\x<=hi
theorem uW {l:List (List Int)} {v i:Nat} {row:List Int} {y:Int} (hv:l[v]?=some row) (hi:i<row.length):
  (dX l ((v:Int),(i:Int)) y)[v]?=some (row.set i y)/\∀k,k≠v->(dX l ((v:Int),(i:Int)) y)[k]?=l[k]?:=by
 unfold dX;simp only[Zag];rw[ag hv];exact⟨Zav (ah hv),fun k hk=>Zaw (Ne.symm hk)⟩
theorem GM {l:List (List Int)} {v i:Nat} {row:List Int} {y hi:Int} (h:Ju hi l) (hv:l[v]?=some row) (rq:i<row.length) (hy : -1<=y/\y<=hi):Ju hi (dX l ((v:Int),(i:Int)) y):=by
 obtain⟨p1,p2⟩:=uW (y:=y) hv rq;intro k r j x hk hj
 by_cases NV:k=v
 ·subst NV;rw[p1]at hk;cases hk
  by_cases nh:j=i
  ·subst nh;rw[Zav rq]at hj
   cases hj;exact hy
  ·rw[Zaw (Ne.symm nh)]at hj;exact h k row j x hv hj
 ·rw[p2 k NV]at hk;exact h k r j x hk hj
theorem Rb (l:List (List Int)) (e:Int×Int) (y:Int):(dX l e y).length=l.length:=by unfold dX;simp
theorem Am {ep:List (List (Int×Int))} {l:List (List Int)} {v i:Nat} {row:List Int} {y:Int} (h:qr ep l) (hv:l[v]?=some row) (rq:i<row.length):qr ep (dX l ((v:Int),(i:Int)) y):=by
 obtain⟨p1,p2⟩:=uW (y:=y) hv rq
 refine⟨by rw[Rb];exact h.1,fun k es r aU hk=>?_⟩
 by_cases NV:k=v
 ·subst NV;rw[p1]at hk;cases hk;rw[Zau];exact h.2 k es row aU hv
 ·rw[p2 k NV]at hk;exact h.2 k es r aU hk
def Mo (ep:List (List (Int×Int))) (av:List (Int×Int)):Prop:=∀(k:Nat) (e:Int×Int),av[k]?=some e->∃(v i:Nat) (es:List (Int×Int)),e=((v:Int),(i:Int))/\ep[v]?=some es/\i<es.length
theorem NW {l:List (List Int)} {k:Nat} {e:Int×Int} (h:e∈kX l k):∃(v i:Nat) (row:List Int),e=((v:Int),(i:Int))/\v<k/\l.getD v []=row/\i<row.length:=by
 unfold kX at h;rw[List.mem_flatMap]at h;obtain⟨v,hv,he⟩:=h;unfold zH at he;rw[List.mem_map]at he;obtain⟨i,hi,rfl⟩:=he;rw[List.mem_filter]at hi;exact⟨v,i,_,rfl,Zab.1 hv,rfl,Zab.1 hi.1⟩
theorem Rc {ep:List (List (Int×Int))} {l:List (List Int)} (h:qr ep l):Mo ep (gb l):=by
 intro k e hk;obtain⟨v,i,row,rfl,hv,hr,hi⟩:=NW (Zaq hk);obtain⟨fN,aG⟩:=au l v hv;rw[ag aG]at hr;subst hr
 obtain⟨es,aU⟩:=au ep v (by rw[<- h.1];exact hv)
 exact⟨v,i,es,rfl,aU,by rw[<- h.2 v es fN aU aG];exact hi⟩
def NX (w:World) (b i:Nat):Int:=match w.cell? ⟨b,i,none⟩with | some (.int .i64 z)=>z | _=>0
theorem yE {w:World} {b i:Nat} {z:Int} (h:w.cell? ⟨b,i,none⟩=some (.int .i64 z)):NX w b i=z:=by unfold NX;rw[h]
theorem Re {w:World} {base:Nat} {uf:Value} {av:List (Int×Int)} {T:List Nat} (h:eE w base uf av T):∃A c,uf=.slice A av.length c/\av.length<=c/\c<=maxLen/\∀(k:Nat) (e:Int×Int),av[k]?=some e->∃b off,A=some ⟨b,off,none⟩/\w.cell? ⟨b,off+k*2,none⟩=some (.int .i64 e.1)/\w.cell? ⟨b,off+k*2+1,none⟩=some (.int .i64 e.2):=by
 obtain⟨A,c,rfl,h1,h2,h3⟩:=h.read;exact⟨A,c,rfl,h1,h2,h3⟩
theorem jc.ahk {w:World} {sb:Nat} {vs:Array Value} {l:List (List Int)} {av:List (Int×Int)} {uf:Value} {SL:List Nat} {B gl gr k cl m cr:Nat} (h:jc w sb vs l av (.slice (some ⟨gl,0,none⟩) k cl) uf SL B) {v i:Nat} {row:List Int} {x:Int} (hv:l[v]?=some row) (hi:row[i]?=some x)
  (hc:w.cell? ⟨gl,v,none⟩=some (.slice (some ⟨gr,0,none⟩) m cr)):w.cell? ⟨gr,i,none⟩=some (.int .i64 x)/\w.frozen? ⟨gr,i,none⟩=false/\gr∈SL /\
   ∀y,jc (w.setCell ⟨gr,i,none⟩ (.int .i64 y)) sb vs (dX l ((v:Int),(i:Int)) y) av (.slice (some ⟨gl,0,none⟩) k cl) uf SL B/\Below B w (w.setCell ⟨gr,i,none⟩ (.int .i64 y))/\aV (sb::SL) w (w.setCell ⟨gr,i,none⟩ (.int .i64 y)):=by
 obtain⟨gl',cl',gr',cr',e,h1,h2,h3,h4,h5⟩:=h.label hv hi;simp only[Value.slice.injEq,Option.some.injEq,Addr.mk.injEq,and_true]at e;obtain⟨rfl,-,-⟩:=e;rw[h1]at hc;simp only[Option.some.injEq,Value.slice.injEq,Addr.mk.injEq,and_true]at hc;obtain⟨rfl,-,-⟩:=hc;exact⟨h2,h3,h4,h5⟩
section
variable (p : aq) (ends : List (List (Int × Int))) (av : List (Int × Int)) (most : Int) (F : Nat) {l : List (List Int)} {q v i : Nat} {st : Int} {row : List Int} {x : Int}
theorem Rf (hv:l[v]?=some row) (hi:row[i]?=some x):dt l ((v:Int),(i:Int))=x:=by
 unfold dt;simp only[Zag];rw[ag hv,ag hi]
theorem Rg {σ:Type} (nx:σ->List (List Int)->Bool×σ) (s:σ) (hq:av[q]?=some ((v:Int),(i:Int))) (hv:l[v]?=some row) (hi:row[i]?=some x) (hst:st<=most) (hf:bR most q st<=F):
  fU nx p ends av most F s l q st=(if x=p.labels-1 then fU nx p ends av most F s (dX l ((v:Int),(i:Int)) (-1)) ((q:Int)-1) st
   else if st=most then (s,3,l,(q:Int),st)
   else if (fJ p (row.set i (x+1))&&ji p ends (dX l ((v:Int),(i:Int)) (x+1)) ((v:Int),(i:Int)))=true then fU nx p ends av most F s (dX l ((v:Int),(i:Int)) (x+1)) ((q:Int)+1) (st+1)
   else fU nx p ends av most F s (dX l ((v:Int),(i:Int)) (x+1)) q (st+1)):=by
 have Kh:=ah hq;rw[pF nx p ends av most F s l q st hst zO hf,if_neg zO,if_neg zO];simp only[Zag,ag hq,Rf hv hi];rw[ag (uW (y:=x+1) hv (ah hi)).1]
end
def P7 {σ:Type} (nx:σ->List (List Int)->Bool×σ) (p:aq) (ends:List (List (Int×Int))) (av:List (Int×Int)) (most:Int) (s:σ) (l:List (List Int)):σ×SoR:=
 if f7 p ends l=true then fU nx p ends av most (bR most 0 0) s l 0 0 else (s,2,l,0,0)
theorem VT {σ:Type} (nx:σ->List (List Int)->Bool×σ) (J:σ->World->Prop) (nQ:FuncId) (jX:Array Value) (p:aq) (n:ao) (pa pb va vb vc ul uf:Value) (sb:Nat) (SL:List Nat) (B:Nat) (av:List (Int×Int)) (most:Int) (s0:σ) (l0:List (List Int)) (w:World)
  (i9:∀args w,(callFunc nQ args).run Tryz.prog w=.ok (.enter nQ args) w) (hBs:B<=sb)
  (hPp:∀X,Below B w X->el X pa pb p) (hNn:∀X,Below B w X->aR X va vb vc n) (hJk:∀s W W',J s W->aV (sb::SL) W W'->J s W')
  (lC:∀s l st W,Below B w W->jc W sb (uV p pa pb va vb vc ul uf st) l av ul uf SL B->J s W->Calls Tryz.prog nQ jX W fun e W'=>e=.returned (.bool (nx s l).1)/\J (nx s l).2 W'/\jc W' sb (uV p pa pb va vb vc ul uf st) l av ul uf SL B/\Below B W W')
  (hS:jc w sb (uV p pa pb va vb vc ul uf 0) l0 av ul uf SL B) (hJ:J s0 w) (hn:ar n=true) (hst:eR p.agW) (gM:p.agW.length<=1048576) (eV:1<=p.labels/\p.labels<=8) (iR:qr n.ends l0) (cH:Ju (p.labels-1) l0) (cC:Mo n.ends av) (VU:av.length<=1000) (wI:0<=most/\most<=200000)
  (Q6:∀(v:Nat) (es:List (Int×Int)),n.ends[v]?=some es->es.length<=6):
  Calls Tryz.prog 36 #[.pointer (some ⟨sb,0,none⟩),.int .i64 most,.func (.func nQ) #[] jX] w fun e w'=>
   e=.returned (.int .i64 (P7 nx p n.ends av most s0 l0).2.1)/\jc w' sb (uV p pa pb va vb vc ul uf (P7 nx p n.ends av most s0 l0).2.2.2.2) (P7 nx p n.ends av most s0 l0).2.2.1 av ul uf SL B/\J (P7 nx p n.ends av most s0 l0).1 w'/\Below B w w':=by
 have NO:B<=w.heap.size:=Zak hBs (Zcd hS.1.lt);obtain⟨A5,c5,P8,-⟩:=id hS.2.1.read;obtain⟨TE,hTE⟩:=hS.2.2.2;obtain⟨A6,c6,huf,-,-,-⟩:=Re hTE;obtain⟨A1,c1,hpa,-⟩:=id (hPp w (Zaf _ _)).1;obtain⟨A2,c2,dV,-⟩:=id (hPp w (Zaf _ _)).2;obtain⟨A3,c3,hva,-⟩:=id (hNn w (Zaf _ _)).1;obtain⟨A4,c4,hvb,-⟩:=id (hNn w (Zaf _ _)).2.1;obtain⟨A7,c7,hvc,-⟩:=id (hNn w (Zaf _ _)).2.2;subst P8 huf hpa dV hva hvb hvc;have hwl:IntKind.i64.wrap (p.labels-1)=p.labels-1:=bU _ zO zO;have eg:=i9;obtain⟨gO,iD,HJk,Hcl,HS,HJ,nr,wH,wE⟩:=H_ hPp hNn hJk lC hS hJ hst iR cH;obtain⟨jB,Hr6⟩:=A_ cC Q6
 have nd:Hid (∀(v:Nat) (row:List Int),l0[v]?=some row->row.length<=1000000):=fun v row hv=>by
  obtain⟨es,aU⟩:=au n.ends v (by rw[<- iR.1];exact ah hv)
  have:=iR.2 v es row aU hv
  have:=Q6 v es aU
  omega
 obtain⟨k0,k1,k2,k3,k4,k5,k6,k7,-,-⟩:=iL hS.1
 replace k0:=ae k0
 replace k1:=ae k1
 replace k2:=ae k2
 replace k3:=ae k3
 replace k4:=ae k4
 replace k5:=ae k5
 replace k6:=ae k6
 replace k7:=ae k7
 clear hPp hNn hJk lC hS hJ hst iR cH cC Q6 hTE i9;obtain⟨jp,hhB⟩:=K_ (f7 p n.ends l0)
 have HhB:=zh hhB;clear hhB;obtain⟨R,hR⟩:=K_ (P7 nx p n.ends av most s0 l0)
 have HR:=zh hR;rw[hR];clear hR
 go_enter Tryz.func36,Tryz.ntmps36
 go_upto_region 1 with(fail);refine ap 14 (ab w) zK zK zS (aj (aa _)) ?_;simp only[zT]
 iterate 12 (refine ch rfl ?_;simp only[zA])
 apply dE _ rfl;(intro W hW;unfold a_;go_simp;with_reducible exact zQ (NR _ _ _ _ _ _ p n l0 W (gO.out W (hW.below.mono NO)) (iD.out W (hW.below.mono NO)) (HS.out.ag9 hW.below).rows hn wH.out nr.out gM nd.out));simp only[zA]
 refine ch rfl ?_;simp only[zA]
 intro W hW;have HW:=zh hW;clear hW k0 k1 k2 k3 k4 k5 k6 k7;rw[HhB.out];cases jp
 ·have Zz:Hid (R=(s0,2,l0,0,0)):=by show _=_;rw[<- HR.out];unfold P7;rw[if_neg (by rw[HhB.out];simp)]
  go_wp2;go_ret;rw[Zz.out];exact⟨rfl,HS.ag9 HW.below,HJk _ _ _ HJ (aV.ag2 HW.below),HW.below.mono NO⟩
 ·obtain⟨F,hF⟩:=J_ (bR most 0 0)
  have Zz:Hid (R=fU nx p n.ends av most F s0 l0 0 0):=by show _=_;rw[<- HR.out,hF];unfold P7;rw[if_pos HhB.out]
  have hF0:Hid (bR most 0 0<=F):=by show _<=_;rw[hF];exact Zaj _
  clear hF;obtain⟨gU,hgU⟩:=J_ sb
  have HgU:=zh hgU;clear hgU;go_wp2
  go_loopw [7] (fun a wr=>∃(s:σ) (l:List (List Int)) (pos st:Int),a=.int .i64 pos /\ -1<=pos/\pos<=av.length/\0<=st/\st<=most/\(R=fU nx p n.ends av most F s l pos st/\bR most pos st<=F)/\(jc wr sb (uV p (.slice A1 p.nodes.length c1) (.slice A2 p.agW.length c2) (.slice A3 n.ends.length c3) (.slice A4 n.ids.length c4) (.slice A7 n.agT.length c7) (.slice A5 l0.length c5) (.slice A6 av.length c6) st) l av (.slice A5 l0.length c5) (.slice A6 av.length c6) SL B/\J s wr)/\(qr n.ends l/\Ju (p.labels-1) l)/\Below B w wr) (fun a wr=>bR most (intOf a) (NX wr sb 9))
  case atStart=>exact⟨s0,l0,0,0,rfl,zO,zO,zO,wI.1,⟨Zz,hF0⟩,⟨HS.ag9 HW.below,HJk _ _ _ HJ (aV.ag2 HW.below)⟩,⟨wH,wE⟩,HW.below.mono NO⟩
  case round=>
   obtain⟨s,l,pos,st,rfl,Me,vP,dw,fH,uw,sT,hinv,hb⟩:=hrel;obtain⟨tE,ZA,Ki,Hb⟩:=C_ uw sT hinv hb;obtain⟨d0,d1,d2,d3,d4,d5,d6,d7,d8,d9⟩:=iL sT.1.1;have hme:Hid (NX wr sb 9=st):=yE d9;have aga:Hid (st=NX wr sb 9):=hme.symm
   have abQ:Hid (l0.length=l.length):=by show _=_;have h1:=sT.1.rows;obtain⟨_,_,e,-⟩:=h1;simp only[Value.slice.injEq]at e;exact e.2.1
   clear uw sT hinv hb d0 d1 d2 d3 d4 d5 d6 d7 d9;have HFm:Hid (bR most pos st<=F):=tE.2;obtain⟨M0,hM0⟩:=K_ (bR most (intOf (Value.int .i64 pos)) (NX wr sb 9))
   have Cn:=zh hM0
   have HMe:Hid (bR most pos st=M0):=by show _=_;rw[<- hM0,hme.out];rfl
   clear hM0
   go_upto_if 30 with(fail)
   go_cut [7]from 24 to 121 (fun a wx=>∃(s1:σ) (oZ:Int),a=.int .i64 oZ /\ -1<=oZ/\oZ<av.length/\bR most oZ st<=M0/\R=fU nx p n.ends av most F s1 l oZ st/\(jc wx sb (uV p (.slice A1 p.nodes.length c1) (.slice A2 p.agW.length c2) (.slice A3 n.ends.length c3) (.slice A4 n.ids.length c4) (.slice A7 n.agT.length c7) (.slice A5 l0.length c5) (.slice A6 av.length c6) st) l av (.slice A5 l0.length c5) (.slice A6 av.length c6) SL B/\J s1 wx)/\Below B w wx)
   case first=>
    by_cases ii:pos=av.length
    ·have lV:(pos==(av.length:Int))=true:=by simpa using ii
     obtain⟨eF,kZ⟩:=A_ (pF nx p n.ends av most F s l pos st fH Me tE.out.2) (Hcl.out s l st wr Hb.out ZA.out.1 ZA.out.2);obtain⟨bo,kv⟩:=K_ ((nx s l).1)
     have yF:=zh kv;obtain⟨s1,abR⟩:=K_ ((nx s l).2)
     have di:=zh abR
     have X3:Hid (∀b,(nx s l).1=b->R=if b=true then fU nx p n.ends av most F s1 l (pos-1) st else (s1,1,l,pos,st)):=by
      intro b hb;rw[tE.out.1,eF.out,if_neg zO,if_pos ii,hb,di.out]
     obtain⟨oZ,Rh⟩:=K_ (pos-1)
     have wp1:IntKind.i64.wrap (pos-1)=oZ:=by rw[bU _ zO zO];exact Rh
     have th : -1<=oZ:=zO
     have EQ:oZ<av.length:=zO
     have Hle:Hid (bR most oZ st<=M0):=by show _<=_;rw[<- HMe.out];unfold bR;omega
     have HF1:Hid (bR most oZ st<=F):=by show _<=_;have:=Hle.out;rw[<- HMe.out]at this;exact Zak this HFm
     have Hp1:=zh Rh;clear kv abR ii Rh Me vP eF;go_wp2_with fail;refine kZ.mono ?_;rw[yF.out,di.out];rintro e w1 ⟨rfl,hJ1,nq,aP⟩;obtain⟨An,jR⟩:=A_ (And.intro nq hJ1) (Hb.out.trans aP);clear hJ1 nq aP;cases bo
     ·have U4:Hid (R=(s1,1,l,pos,st)):=by show _=_;rw[X3.out false yF.out,if_neg zS]
      go_wp2;go_ret;rw[U4.out];exact⟨rfl,An.1,An.2,jR⟩
     have ZB:Hid (R=fU nx p n.ends av most F s1 l oZ st):=by show _=_;rw[X3.out true yF.out,if_pos rfl,Hp1.out]
     go_wp2;go_meet
     exact⟨s1,oZ,rfl,th,EQ,Hle,ZB,An,jR⟩
    ·have lV:(pos==(av.length:Int))=false:=by simpa using ii
     have EQ:pos<av.length:=zO
     clear ii;go_wp2;go_meet
     exact⟨s,pos,rfl,Me,EQ,by rw[<- HMe.out];exact Zaj _,tE.1,ZA,Hb⟩
   case rest=>
    obtain⟨s1,oZ,rfl,th,EQ,EB,yj,qQ,aP⟩:=hcut;obtain⟨w1,lD⟩:=J_ wc
    have Hle:Hid (bR most oZ st<=M0):=EB
    have HF1:Hid (bR most oZ st<=F):=by show _<=_;rw[<- HMe.out]at EB;exact Zak EB HFm
    obtain⟨ZB,An,jR⟩:=B_ yj qQ aP;clear EB yj qQ aP lD w1 d8 Me vP
    by_cases np:oZ<0
    ·have U4:Hid (R=(s1,2,l,oZ,st)):=by show _=_;rw[ZB.out,pF nx p n.ends av most F s1 l oZ st fH th HF1.out,if_pos np]
     go_wp2;go_ret;rw[U4.out];exact⟨rfl,An.1,An.2,jR⟩
    ·obtain⟨q,rfl⟩:=Int.eq_ofNat_of_zero_le (show 0<=oZ by omega)
     have Kh:q<av.length:=zO
     obtain⟨e,he⟩:=au av q Kh;obtain⟨v,i,es,rfl,aU,hie⟩:=jB q e he
     have xA:v<l.length:=by rw[Ki.out.1.1];exact ah aU
     obtain⟨row,aG⟩:=au l v xA;have hre:=Ki.1.2 v es row aU aG;have Q6:=Hr6 v es aU;have hir:i<row.length:=zO
     have abO:row.length<=6:=zO
     obtain⟨x,hx⟩:=au row i hir;have CS:=Ki.2 v row i x aG hx;have lL:=zh (Rg p n.ends av most F nx s1 he aG hx fH HF1.out);obtain⟨gl,cl,gr,cr,e5,f1,f2,f3,f4,-⟩:=An.1.label aG hx
     injection e5 with ea eb' ec
     subst ea ec;obtain⟨TE1,abS⟩:=An.1.2.2.2;obtain⟨A6',VV,e6,-,-,X4⟩:=Re abS;obtain⟨b6,o6,e7,t1,t2⟩:=X4 q _ he
     injection e6 with ea6 eb6 ec6
     subst ec6;rw[<- ea6]at e7;subst e7;obtain⟨d0,d1,d2,d3,d4,d5,d6,d7,d8,d9⟩:=iL An.1.1
     have Qv:v<l0.length:=by rw[abQ.out];exact xA
     have tD:sb<wc.heap.size:=An.1.1.lt;have hgs:gr<sb:=An.1.2.2.1 gr f4;obtain⟨dT,Hx,ni⟩:=B_ aG hx aU;clear he aU hie aG hx hre ea6 eb6 eb' X4 abS f3 xA d1 d2 d3 d4 d5 d6 np th EQ;go_upto_region 11 with(fail);obtain⟨eb,tG⟩:=J_ wc.heap.size
     obtain⟨w2,ip⟩:=J_ (wc.alloc (.cells #[.int .i64 v,.int .i64 i] 104))
     have rs:ab wc w2:=by rw[ip];exact ad _ (aa _)
     have HE:Hid (fF w2 eb #[.int .i64 v,.int .i64 i]):=by rw[tG,ip];exact fF.new _ _ _
     have Ri:sb<eb:=by rw[tG];exact tD
     rw[<- ip,<- tG];have g0:∀W,ab w2 W->W.cell? ⟨eb,0,none⟩=some (.int .i64 v):=ae (HE.cell 0 _ rfl).1;have g1:∀W,ab w2 W->W.cell? ⟨eb,1,none⟩=some (.int .i64 i):=ae (HE.cell 1 _ rfl).1;have l7:=al (ae d7) rs;have l1:=al (ae f1) rs;have l2:=al (ae f2) rs;have l00:=al (ae d0) rs;have l9:=al (ae d9) rs;have qF:=zh rs;clear ip tG rs d0 d7 d8 d9 f1 f2 t1 t2 tD;refine ap 12 (ab w2) zK zK zS (aj (aa _)) ?_;simp only[zT]
     iterate 12 (refine ch rfl ?_;simp only[zA])
     intro W3 pN;have m2:=al l2 pN;have m00:=al l00 pN;obtain⟨NY,Hl9,GI,agb⟩:=C_ (al l1 pN) (al l9 pN) pN m00;clear g0 g1 l7 l1 l2 l00 l9 pN;go_upto_region 12 with(fail)
     by_cases lK:x=p.labels-1
     ·have dK:(x==p.labels-1)=true:=by simpa using lK
      have Co:=zh lK;clear lK;refine ap 10 (ab W3) zK zK zS (aj (aa _)) ?_;simp only[zT]
      iterate 10 (refine ch rfl ?_;simp only[zA])
      intro W4 qS;have Kj:=zh (qF.out.after (GI.out.after qS));obtain⟨y1,y2,y3,y4⟩:=(An.1.ag9 Kj.below).ahk dT Hx (NY W4 qS);obtain⟨n1,n2,n3⟩:=y4 (-1);have ZC:=zh n1;have FU:=zh (jR.out.trans ((Kj.out.below.mono (Zak hBs (Zcd An.out.1.1.lt))).trans n2));have HN3:=zh (HJk.out _ _ _ An.out.2 ((aV.ag2 Kj.out.below).trans n3));clear y4 n1 n2 n3 qS m2 m00 dK
      have X5:Hid (R=fU nx p n.ends av most F s1 (dX l ((v:Int),(i:Int)) (-1)) ((q:Int)-1) st):=by show _=_;rw[ZB.out,lL.out,if_pos Co.out]
      have wq:IntKind.i64.wrap ((q:Int)-1)=(q:Int)-1:=bU _ zO zO
      have X6:Hid (bR most ((q:Int)-1) st<M0/\bR most ((q:Int)-1) st<=F):=by have:=Hle.out;have:=HF1.out;unfold bR at *;exact⟨zO,zO⟩
      by_cases hq0:(q:Int)-1<0
      ·have U4:Hid (R=(s1,2,dX l ((v:Int),(i:Int)) (-1),(q:Int)-1,st)):=by show _=_;rw[X5.out,pF nx p n.ends av most F s1 _ ((q:Int)-1) st fH zO X6.out.2,if_pos hq0]
       go_wp2;go_ret;rw[U4.out];exact⟨rfl,ZC,HN3,FU⟩
      ·go_wp2;go_roundw
       exact⟨s1,_,(q:Int)-1,st,zM,zO,zO,dw,fH,⟨X5,X6.2⟩,⟨ZC,HN3⟩,⟨Am Ki.1 dT hir,GM Ki.2 dT hir ⟨zO,zO⟩⟩,FU⟩
       case measure=>
        rw[Cn.out,yE (iL ZC.out.1).2.2.2.2.2.2.2.2.2];exact X6.1
     ·have dK:(x==p.labels-1)=false:=by simpa using lK
      have Co:=zh lK;clear lK;refine ap 10 (ab W3) zK zK zS (aj (aa _)) ?_;simp only[zT]
      iterate 10 (refine ch rfl ?_;simp only[zA])
      intro W4 qS;have Kj:=zh (qF.out.after (GI.out.after qS));obtain⟨y1,y2,y3,y4⟩:=(An.1.ag9 Kj.below).ahk dT Hx (NY W4 qS);have y9:=Hl9 W4 qS;obtain⟨ad5,ZD⟩:=A_ (An.out.1.ag9 Kj.out.below) (HE.out.below (GI.out.after qS).below HE.out.lt);clear qS m2 m00 dK
      by_cases hms:st=most
      ·have ZE:(st==most)=true:=by simpa using hms
       have U4:Hid (R=(s1,3,l,(q:Int),st)):=by show _=_;rw[ZB.out,lL.out,if_neg Co.out,if_pos hms]
       clear hms y1 y2 y3 y4;go_wp2;go_ret;rw[U4.out];exact⟨rfl,ad5,HJk _ _ _ An.2 (aV.ag2 Kj.below),jR.trans (Kj.below.mono (Zak hBs (Zcd An.1.1.lt)))⟩
      ·have ZE:(st==most)=false:=by simpa using hms
       have Hms:=zh hms;obtain⟨n1,n2,n3⟩:=y4 (x+1);obtain⟨m1,m2,m3⟩:=n1.field hBs 9 (.int .i64 (st+1));have wx:IntKind.i64.wrap (x+1)=x+1:=bU _ zO zO;have ws:IntKind.i64.wrap (st+1)=st+1:=bU _ zO zO;obtain⟨W5,uO⟩:=J_ (W4.setCell ⟨gr,i,none⟩ (.int .i64 (x+1)))
       rw[<- uO]at n1 n2 n3 m1 m2 m3;obtain⟨W6,hW6⟩:=J_ (W5.setCell ⟨sb,9,none⟩ (.int .i64 (st+1)))
       rw[<- hW6]at m1 m2 m3
       have HE6:Hid (fF W6 eb #[.int .i64 v,.int .i64 i]):=by
        rw[hW6,uO];exact(ZD.out.set (p:=⟨gr,i,none⟩) (show gr≠eb by omega)).set (p:=⟨sb,9,none⟩) (show sb≠eb by omega)
       have z9:=(n1.1.cell 9 (.int .i64 st) rfl).1;have zf:=(n1.1.cell 9 (.int .i64 st) rfl).2;have DF:W4.cell? ⟨sb,9,none⟩=some (.int .i64 st):=y9;obtain⟨lp,hlp⟩:=J_ (dX l ((v:Int),(i:Int)) (x+1))
       rw[<- hlp]at m1 n1;have Hlp:=zh hlp;have ZF:Hid (jc W6 sb (uV p (.slice A1 p.nodes.length c1) (.slice A2 p.agW.length c2) (.slice A3 n.ends.length c3) (.slice A4 n.ids.length c4) (.slice A7 n.agT.length c7) (.slice (some ⟨gl,0,none⟩) l0.length c5) (.slice (some ⟨b6,o6,none⟩) av.length c6) (st+1)) lp av (.slice (some ⟨gl,0,none⟩) l0.length c5) (.slice (some ⟨b6,o6,none⟩) av.length c6) SL B):=m1;have HB6:=zh (jR.out.trans ((Kj.out.below.mono (Zak hBs (Zcd An.out.1.1.lt))).trans (n2.trans m2)));have HJ6:=zh (HJk.out _ _ _ An.out.2 ((aV.ag2 Kj.out.below).trans (n3.trans m3)))
       have Hrp:Hid (lp[v]?=some (row.set i (x+1))):=by show _=_;rw[hlp];exact(uW dT hir).1
       have HIp:Hid (qr n.ends lp/\Ju (p.labels-1) lp):=by rw[hlp];exact⟨Am Ki.out.1 dT.out hir,GM Ki.out.2 dT.out hir ⟨zO,zX Co.out⟩⟩
       obtain⟨rp,hrp⟩:=J_ (row.set i (x+1))
       have agc:rp.length=row.length:=by rw[hrp,Zau]
       rw[<- hrp]at Hrp lL;rw[<- hlp]at lL;obtain⟨J3,HW6⟩:=A_ uO hW6;clear hlp hrp n1 n2 n3 m1 m2 m3 y3 y4 hms uO hW6;go_upto_region 20 with(fail);rw[<- J3.out];clear y1 y2 y9 DF;go_upto_region 21 with(fail);rw[<- HW6.out];clear z9 zf;obtain⟨d0,d1,d2,d3,d4,d5,d6,d7,d8,d9⟩:=iL ZF.1;have a0:=ae d0;have a1:=ae d1;have a2:=ae d2;have a3:=ae d3;have a4:=ae d4;have a5:=ae d5;have a6:=ae d6;have a7:=ae d7;have g0:∀W,ab W6 W->W.cell? ⟨eb,0,none⟩=some (.int .i64 v):=ae (HE6.cell 0 _ rfl).1;have g1:∀W,ab W6 W->W.cell? ⟨eb,1,none⟩=some (.int .i64 i):=ae (HE6.cell 1 _ rfl).1;have hB6:B<=W6.heap.size:=Zak hBs (Zcd ZF.1.lt);have ad6:i<rp.length:=zO
       clear d0 d1 d2 d3 d4 d5 d6 d7 d8 d9;refine ap 30 (ab W6) zK zK zS (aj (aa _)) ?_;simp only[zT]
       iterate 16 (refine ch rfl ?_;simp only[zA])
       apply dE _ rfl;(intro W hW;unfold a_;go_simp;with_reducible exact zQ (nX _ _ _ _ _ _ p n lp v i rp W (gO.out W (HB6.out.trans (hW.below.mono hB6))) (iD.out W (HB6.out.trans (hW.below.mono hB6))) (ZF.out.ag9 hW.below).rows hn HIp.out.1 nr.out gM Hrp.out ad6));simp only[zA]
       refine ch rfl ?_;simp only[zA]
       iterate 10 (refine iT rfl rfl ?_;simp only[zA])
       apply bn rfl rfl;(intro hb;intro W hW;unfold a_;go_simp;with_reducible exact zQ (nW _ _ _ p lp v rp W (gO.out W (HB6.out.trans (hW.below.mono hB6))) (ZF.out.ag9 hW.below).rows Hrp.out zO));simp only[zA]
       (first | refine dy rfl rfl ?_ | (refine ch rfl ?_));simp only[zA]
       intro W7 hW7;obtain⟨HM7,HB7,HJ7⟩:=B_ (ZF.out.ag9 hW7.below) (HB6.out.trans (hW7.below.mono hB6)) (HJk.out _ _ _ HJ6.out (aV.ag2 hW7.below));clear a0 a1 a2 a3 a4 a5 a6 a7 g0 g1 hW7
       have X6:Hid ((bR most (q:Int) (st+1)<M0/\bR most (q:Int) (st+1)<=F)/\(bR most ((q:Int)+1) (st+1)<M0/\bR most ((q:Int)+1) (st+1)<=F)):=by have:=Hle.out;have:=HF1.out;unfold bR at *;exact⟨⟨zO,zO⟩,⟨zO,zO⟩⟩
       have wq:=zw q;cases hg:(ji p n.ends lp ((v:Int),(i:Int))&&fJ p rp)
       ·have X5:Hid (R=fU nx p n.ends av most F s1 lp q (st+1)):=by show _=_;rw[ZB.out,lL.out,if_neg Co.out,if_neg Hms.out,if_neg (by rw[Bool.and_comm,hg];simp)]
        go_wp2;go_roundw
        exact⟨s1,lp,q,st+1,rfl,zO,zO,zO,zX Hms.out,⟨X5.out,X6.out.1.2⟩,⟨HM7.out,HJ7.out⟩,HIp.out,HB7.out⟩
        case measure=>
         rw[Cn.out,yE (iL HM7.out.1).2.2.2.2.2.2.2.2.2];exact X6.1.1
       ·have X5:Hid (R=fU nx p n.ends av most F s1 lp ((q:Int)+1) (st+1)):=by show _=_;rw[ZB.out,lL.out,if_neg Co.out,if_neg Hms.out,if_pos (by rw[Bool.and_comm,hg])]
        go_wp2;go_roundw
        exact⟨s1,lp,(q:Int)+1,st+1,zM,zO,zO,zO,zX Hms.out,⟨X5.out,X6.out.2.2⟩,⟨HM7.out,HJ7.out⟩,HIp.out,HB7.out⟩
        case measure=>
         rw[Cn.out,yE (iL HM7.out.1).2.2.2.2.2.2.2.2.2];exact X6.2.1
theorem Kk {n:ao}:qr n.ends (aX n):=by
 refine⟨sm n,fun v es row aU hr=>?_⟩
 rw[sq aU]at hr;cases hr;simp
theorem uX {n:ao} {hi:Int} (h : -1<=hi):Ju hi (aX n):=by
 intro v row i x hv hx;unfold aX at hv;rw[Zbr]at hv
 cases he:n.ends[v]? with
 | none=>rw[he]at hv;cases hv
 | some es=>
  rw[he]at hv;cases hv
  have:=Zaq hx
  obtain⟨-,rfl⟩:=List.mem_replicate.1 this;omega
theorem eX {n:ao} (h:ar n=true):n.ends.length<=40/\∀(v:Nat) (es:List (Int×Int)),n.ends[v]?=some es->es.length<=6:=by
 have h':=h;unfold ar at h;simp only[Zai,Zbh,aB]at h;refine⟨zO,fun v es aU=>?_⟩
 have:=h.2 v (Zab.2 (ah aU))
 rw[ag aU]at this;unfold iy at this;simp only[Zai,decide_eq_true_eq]at this;exact this.1
theorem N1 {l:List (List Int)} (h1:l.length<=40) (h2:∀(v:Nat) (row:List Int),l[v]?=some row->row.length<=6):(gb l).length<=1000:=by
 have:=GL h2 l.length
 unfold gb;omega
theorem aE {p:aq} (h:bV p=true):(1<=p.labels/\p.labels<=8)/\eR p.agW:=by
 unfold bV at h;simp only[Zai,aB]at h;exact⟨h.1,jO h.2.2.2⟩
theorem jc.mono {w:World} {sb:Nat} {vs:Array Value} {l:List (List Int)} {av:List (Int×Int)} {ul uf:Value} {SL:List Nat} {B B':Nat} (h:jc w sb vs l av ul uf SL B) (hB:B'<=B):jc w sb vs l av ul uf SL B':=by
 obtain⟨h1,h2,h3,h4⟩:=h;exact⟨h1,aL.mono h2 hB,h3,h4⟩
def jd (n:ao) (l:List (List Int)) (k:Nat):Bool:=(List.range k).all fun v=>decide ((l.getD v []).length=(n.ends.getD v []).length)
theorem GN (n:ao) (l:List (List Int)) (k:Nat):jd n l (k+1)=(jd n l k&&decide ((l.getD k []).length=(n.ends.getD k []).length)):=by
 unfold jd;rw[Zaa,List.all_append];simp
theorem ES {n:ao} {l:List (List Int)} {k m:Nat} (hk:k<m) (h:(l.getD k []).length≠(n.ends.getD k []).length):jd n l m=false:=by
 unfold jd;rw[List.all_eq_false];exact⟨k,Zab.2 hk,by simpa using h⟩
def kC (n:ao) (l:List (List Int)):Bool:=decide (l.length=n.ends.length)&&jd n l l.length
def GO (p:aq) (l:List (List Int)):Bool:=!(l.any fun c => !lX c (-1) (p.labels-1))
def fB (p:aq) (n:ao) (l:List (List Int)):Bool:=kC n l&&GO p l
def GP (p:aq) (l:List (List Int)) (k:Nat):Bool:=(List.range k).all fun v=>lX (l.getD v []) (-1) (p.labels-1)
theorem VW (p:aq) (l:List (List Int)):GO p l=GP p l l.length:=by
 unfold GO GP
 rw[List.not_any_eq_all_not,Zbl];simp only[Zbh,Zab,Bool.not_not];constructor
 ·intro h v hv;obtain⟨x,hx⟩:=au l v hv;rw[ag hx];exact h x (Zaq hx)
 ·intro h x hx;obtain⟨k,hk⟩:=List.getElem?_of_mem hx
  have:=h k (ah hk)
  rwa [ag hk]at this
theorem Mp (p:aq) (n:ao) (l:List (List Int)):fB p n l=(decide (l.length=n.ends.length)&&(jd n l l.length&&GP p l l.length)):=by
 unfold fB kC
 rw[VW,Bool.and_assoc]
theorem Rj {p:aq} (h:bV p=true):(1<=p.labels/\p.labels<=8)/\True:=by
 unfold bV at h;simp only[Zai,aB]at h;exact⟨h.1,trivial⟩
theorem xI (ve vi vn vl:Value) (n:ao) (l:List (List Int)) (w:World) (h:aR w ve vi vn n) (hl:bS w vl l):
  Calls Tryz.prog 80 #[.agg #[ve,vi,vn],vl] w fun e w'=>e=.returned (.bool (kC n l))/\Below w.heap.size w w':=by
 obtain⟨w0,A,c,A2,c2,A3,c3,rfl,rfl,rfl,fR,hm,gC,jz,HA,H,cD,aY,fp,fE,fM⟩:=zB h;clear h
 have HL:=zh (hl.agU aY.out);obtain⟨AL,cL,rfl,hlL,VR,-⟩:=hl;unfold maxLen at VR
 go_enter Tryz.func80,Tryz.ntmps80
 go_upto_region 1 with(fail);rw[<- cD.out];have hs:ab w0 w0:=aa _
 by_cases ii:l.length=n.ends.length
 ·have aP:((l.length:Int) != (n.ends.length:Int))=false:=by simp[ii]
  have Cj:l.length<=n.ends.length:=zO
  have HR:Hid (kC n l=jd n l l.length):=by show _=_;unfold kC;rw[decide_eq_true ii];rfl
  clear ii;go_wp2
  go_loopw [15] (fun i wr=>∃k:Nat,k<=l.length/\i=.int .i64 k/\jd n l k=true/\ab w0 wr) (fun i _=>l.length-(intOf i).toNat)
  case atStart=>exact⟨0,Zac _,rfl,rfl,hs⟩
  case round=>
   obtain⟨k,hk,rfl,c_,hb⟩:=hrel;obtain⟨gS,Hb⟩:=A_ c_ hb;clear c_ hs aP
   by_cases aA:k<l.length
   ·obtain⟨row,b,off,A1,z1,hx,rfl,dk,dP,dY,na⟩:=fw HL aA;obtain⟨es,aU⟩:=au n.ends k zO;obtain⟨b',nf,c',u,hA,NU,jT,aG⟩:=iK H.es aU;cases hA;obtain⟨A3',z3,rfl,qt,VX,-⟩:=aG;have q1:=bc Hb.below dk;have q2:=bc Hb.below jT;have Hxx:Hid ((l.getD k []).length=row.length/\(n.ends.getD k []).length=es.length):=⟨by rw[ag hx],by rw[ag aU]⟩
    clear dk jT hx aU na
    by_cases EB:row.length=es.length
    ·have lV:((row.length:Int) != (es.length:Int))=false:=by simp[EB]
     have Hn:Hid (jd n l (k+1)=true):=by show _=_;rw[GN,gS.out,Hxx.out.1,Hxx.out.2,decide_eq_true EB];rfl
     clear EB;go_wp2;go_roundw
     exact⟨k+1,zO,zM,Hn,Hb⟩
     simp[intOf];omega
    ·have lV:((row.length:Int) != (es.length:Int))=true:=by simp;omega
     have Hn:Hid (jd n l l.length=false):=ES aA (by rw[Hxx.out.1,Hxx.out.2];exact EB)
     clear EB;go_wp2;go_ret;exact⟨aJ (HR.trans Hn),ab.after aY Hb⟩
   ·obtain rfl:k=l.length:=zO
    clear hb;go_wp2;go_ret;exact⟨eT (HR.trans gS),ab.after aY Hb⟩
 ·have aP:((l.length:Int) != (n.ends.length:Int))=true:=by simp;omega
  have HR:Hid (kC n l=false):=by show _=_;unfold kC;rw[decide_eq_false ii];rfl
  clear ii;go_wp2;go_ret;exact⟨aJ HR,aY⟩
theorem Kl:∀args w,(callFunc 82 args).run Tryz.prog w=.ok (.enter 82 args) w:=enters_of Tryz.func82 zK rfl
theorem VY (u:Value) (row:List Int) (bp:Nat) (x:Int) (w:World) (h:bs w u row) (hx:IntKind.i64.wrap (x-1)=x-1) (hc:w.cell? ⟨bp,0,none⟩=some (.int .i64 x)):
  Calls Tryz.prog 82 #[u,.pointer (some ⟨bp,0,none⟩)] w fun e w'=>e=.returned (.bool (!lX row (-1) (x-1)))/\Below w.heap.size w w':=by
 have H:=zh h;obtain⟨A,c,rfl,-,-,-⟩:=h
 go_enter Tryz.func82,Tryz.ntmps82
 go_wp2_with fail;refine(jN _ row _ _ _ H).mono ?_;rintro e w1 ⟨rfl,hb⟩;go_wp2;go_ret;exact⟨rfl,hb⟩
theorem mE (pa pb ve vi vn vl:Value) (p:aq) (n:ao) (l:List (List Int)) (w:World) (hp:el w pa pb p) (h:aR w ve vi vn n) (hl:bS w vl l) (eV:1<=p.labels/\p.labels<=8):
  Calls Tryz.prog 33 #[.agg #[.int .i64 p.labels,.int .i64 p.degree,pa,pb],.agg #[ve,vi,vn],vl] w fun e w'=>e=.returned (.bool (fB p n l))/\Below w.heap.size w w':=by
 obtain⟨w0,A,c,A2,c2,A3,c3,P0,iG,P1,it,rfl,rfl,rfl,fR,hm,gC,jz,HA,H,rfl,rfl,jj,jk,jl,jm,jn,jo,HP,cD,aY,fp,fE,fM,ku,nY,oW,oX⟩:=Ah hp h;clear hp h
 obtain⟨HL,iD⟩:=A_ (GQ (hl.agU aY.out)) (ET H.out);obtain⟨AL,cL,rfl,-,-,-⟩:=hl;have hwx:IntKind.i64.wrap (p.labels-1)=p.labels-1:=bU _ zO zO;obtain⟨Hwx,U5⟩:=A_ hwx fp
 go_enter Tryz.func33,Tryz.ntmps33
 go_upto_region 1 with(fail);rw[<- cD.out];clear hwx;have hs:ab w0 w0:=aa _;go_wp2_with fail;refine(xI _ _ _ _ n l _ (iD _ hs) (HL _ hs)).mono ?_;rintro e W ⟨rfl,hb⟩;have hW:ab w0 W:=hs.trans hb;have HW:=zh hW;clear hb hs hW fp fE fM ku nY oW oX;cases dV:kC n l
 ·have Hr:Hid (fB p n l=false):=by show _=_;unfold fB;rw[dV];rfl
  clear dV;go_wp2;go_ret;exact⟨aJ Hr,ab.after aY HW⟩
 ·have Hr:Hid (fB p n l=GO p l):=by show _=_;unfold fB;rw[dV];rfl
  clear dV;go_wp2_with fail;refine(j4 _ l 82 #[.pointer (some ⟨w.heap.size,0,none⟩)] (fun c => !lX c (-1) (p.labels-1)) _ (HL _ HW) Kl (fun c hc u X hX hu=>VY u c _ _ X hu Hwx (U5 X (HW.after hX)))).mono ?_
  rintro e W2 ⟨rfl,hb⟩;have FP:=zh (HW.out.trans hb);clear hb;go_wp2;go_ret
  exact⟨bG (by rw[Hr.out];rfl),ab.after aY FP⟩
theorem ad7 {a b:Bool} (h:(!a||b)=false):a=true:=by cases a <;> simp at h ⊢
theorem ru {p:aq} {n:ao} {l:List (List Int)} (h:fB p n l=true):qr n.ends l/\Ju (p.labels-1) l:=by
 rw[Mp,Zai,Zai,decide_eq_true_iff]at h;obtain⟨h1,h2,h3⟩:=h;unfold jd at h2;unfold GP at h3;rw[Zbh]at h2 h3;refine⟨⟨h1,fun v es row he hr=>?_⟩,fun v row i x hr hx=>?_⟩
 ·have:=h2 v (Zab.2 (ah hr))
  rw[ag hr,ag he]at this;simpa using this
 ·have:=h3 v (Zab.2 (ah hr))
  rw[ag hr]at this;unfold lX at this;rw[Zbh]at this
  have:=aB.1 (this x (Zaq hx))
  exact this
theorem Rk {n:ao} {l:List (List Int)} (hn:ar n=true) (hs:qr n.ends l):l.length<=40/\∀(v:Nat) (row:List Int),l[v]?=some row->row.length<=6:=by
 obtain⟨h1,h2⟩:=eX hn
 refine⟨by rw[hs.1];exact h1,fun v row hv=>?_⟩
 obtain⟨es,aU⟩:=au n.ends v (by rw[<- hs.1];exact ah hv)
 rw[hs.2 v es row aU hv];exact h2 v es aU
def EU (_:Unit) (_:List (List Int)):Bool×Unit:=(false,())
def qG (p:aq) (n:ao) (l:List (List Int)) (most:Int):Bool:=bV p&&ar n&&fB p n l&&jK 0 200000 most
def VZ (p:aq) (n:ao) (l:List (List Int)) (most:Int):Unit×SoR:=P7 EU p n.ends (gb l) most () l
def cG (p:aq) (n:ao) (l:List (List Int)) (most:Int):List (List Int):=if qG p n l most=true then (if (VZ p n l most).2.1=1 then (VZ p n l most).2.2.1 else []) else []
def bz (p:aq) (n:ao) (l:List (List Int)) (most:Int):Int:=if qG p n l most=true then (VZ p n l most).2.1 else 0
def eh (p:aq) (n:ao) (l:List (List Int)) (most:Int):Int:=if qG p n l most=true then (VZ p n l most).2.2.2.2 else 0
theorem ZG {p:aq} {n:ao} {l:List (List Int)} {most:Int} {R:Unit×SoR} (eZ:qG p n l most=true) (hR:VZ p n l most=R):cG p n l most=(if R.2.1=1 then R.2.2.1 else [])/\bz p n l most=R.2.1/\eh p n l most=R.2.2.2.2:=by
 unfold cG bz eh
 rw[hR];simp[eZ]
theorem X7 {p:aq} {n:ao} {l:List (List Int)} {most:Int} (eZ:qG p n l most=false):cG p n l most=[]/\bz p n l most=0/\eh p n l most=0:=by
 unfold cG bz eh
 simp[eZ]
theorem sr (w:World) (B:Nat):bu w B (.slice none 0 0) [] []:=⟨[],[],World.ownsRow_nil _ _ _ _,zS,zS,by simp[Value.ownBlock],zS⟩
theorem Km:∀args w,(callFunc 37 args).run Tryz.prog w=.ok (.enter 37 args) w:=enters_of Tryz.func37 zK rfl
theorem V0 (w:World):Calls Tryz.prog 37 #[] w fun e w'=>e=.returned (.bool false)/\w'=w:=by
 go_enter Tryz.func37,Tryz.ntmps37
 go_wp2;go_ret;exact⟨rfl,rfl⟩
theorem Kn (pa pb ve vi vn vl:Value) (p:aq) (n:ao) (l:List (List Int)) (most:Int) (w:World) (hp:el w pa pb p) (h:aR w ve vi vn n) (hl:bS w vl l) (_ : -9223372036854775808<=most/\most<=9223372036854775807) (PN:wB p<=1048576) (fD:qm n<=1048576):
  Calls Tryz.prog 7 #[.agg #[.int .i64 p.labels,.int .i64 p.degree,pa,pb],.agg #[ve,vi,vn],vl,.int .i64 most] w fun e w'=>∃u S,e=.returned (.tuple #[u,.int .i64 (bz p n l most),.int .i64 (eh p n l most)])/\bu w' w.heap.size u (cG p n l most) S/\Below w.heap.size w w':=by
 have gM:p.agW.length<=1048576:=by unfold wB CL at PN;omega
 have Rl:=zh (sd fD)
 obtain⟨w0,A,c,A2,c2,A3,c3,P0,iG,P1,it,rfl,rfl,rfl,fR,hm,gC,jz,HA,H,rfl,rfl,jj,jk,jl,jm,jn,jo,HP,cD,aY,fp,fE,fM,ku,nY,oW,oX⟩:=Ah hp h;clear hp h
 obtain⟨gO,iD,HL⟩:=B_ (Ai HP.out) (ET H.out) (GQ (hl.agU aY.out));obtain⟨AL,cL,rfl,-,-,-⟩:=hl;clear fD PN
 go_enter Tryz.func7,Tryz.ntmps7
 go_upto_region 1 with(fail);rw[<- cD.out];refine aM 20 (ab w0) (aa _) ?_;simp only[zT]
 refine ch rfl ?_;simp only[zA]
 apply dE _ rfl;(intro W hW;unfold a_;go_simp;with_reducible exact zQ (iq _ _ p W (gO.out W hW)));simp only[zA]
 iterate 2 (refine ch rfl ?_;simp only[zA])
 refine iT rfl rfl ?_;simp only[zA]
 apply bn rfl rfl;(intro hb;intro W hW;unfold a_;go_simp;with_reducible exact zQ (fZ _ _ _ n W (iD.out W hW) Rl.out));simp only[zA]
 refine iT rfl rfl ?_;simp only[zA]
 (first | refine db rfl rfl ?_ | (refine ch rfl ?_));simp only[zA]
 refine ch rfl ?_;simp only[zA]
 iterate 3 (refine iT rfl rfl ?_;simp only[zA])
 apply bn rfl rfl;(intro hb;intro W hW;unfold a_;go_simp;with_reducible exact zQ (mE _ _ _ _ _ _ p n l W (gO.out W hW) (iD.out W hW) (HL.out W hW) (Rj (ad7 hb)).1));simp only[zA]
 refine iT rfl rfl ?_;simp only[zA]
 (first | refine db rfl rfl ?_ | (refine ch rfl ?_));simp only[zA]
 refine ch rfl ?_;simp only[zA]
 refine iT rfl rfl ?_;simp only[zA]
 apply bn rfl rfl;(intro hb;intro W hW;unfold a_;go_simp;with_reducible exact zQ (Ab _ _ _ W));simp only[zA]
 refine iT rfl rfl ?_;simp only[zA]
 (first | refine db rfl rfl ?_ | (refine ch rfl ?_));simp only[zA]
 intro W hW
 cases hg:(!bV p || !ar n || !fB p n l || !jK 0 200000 most)
 ·have eZ:qG p n l most=true:=by unfold qG;revert hg;cases bV p <;> cases ar n <;> cases fB p n l <;> cases jK 0 200000 most <;> simp
  simp only[Zbn,Zbo]at hg;obtain⟨⟨⟨Me,hn⟩,z6⟩,hm⟩:=hg;obtain⟨iR,cH⟩:=ru z6;obtain⟨eV,hst⟩:=aE Me;obtain⟨iX,iz⟩:=eX hn;obtain⟨abT,hf6⟩:=Rk hn iR;obtain⟨Hmo,Hf6,xJ,nr,Mq,jB,wH,wE⟩:=G_ (aB.1 hm) hf6 iz hst (N1 abT hf6) (Rc iR) iR cH;obtain⟨PT,hPT⟩:=K_ (gb l)
  obtain⟨R,hR⟩:=K_ (VZ p n l most)
  have HR:Hid (P7 EU p n.ends PT most () l=R):=by show _=_;rw[<- hR,<- hPT];rfl
  have X8:=zh (ZG eZ hR);rw[hPT]at Mq jB;obtain⟨HPT,Hhn,Kq,Nv,eU⟩:=D_ hPT hn eV gM hW;clear hPT hR hm Me hst hf6 iz eZ hW z6 iR cH hn eV;have hs:=eU.out;go_wp2_with fail;clear hs;refine(CR _ _ _ _ _ _ p n l _ (gO _ eU) (iD _ eU) (HL _ eU) abT Hf6).mono ?_;rintro e W1 ⟨sb,ul,uf,SL,rfl,hS,FS,aP⟩;rw[HPT.out]at hS;have hB:w0.heap.size<=W.heap.size:=(ab.below eU).size;have V1:w0.heap.size<=sb:=zO
  have lM:=zh (ab.trans eU.out aP)
  have abU:=zh (VT EU (fun _ _=>True) 37 #[] p n _ _ _ _ _ ul uf sb SL w0.heap.size PT most () l W1 Km V1
   (fun X hX=>gO X (Zbw lM hX)) (fun X hX=>iD X (Zbw lM hX)) (fun _ _ _ _ _=>trivial)
   (fun s l st X _ EV _=>(V0 X).mono fun e X' ⟨he,hX'⟩=>by rw[hX'];exact⟨he,trivial,EV,Zaf _ _⟩)
   (hS.mono hB) trivial Hhn nr Nv Kq wH wE jB Mq Hmo xJ)
  rw[HR.out]at abU;clear hS FS aP hB V1;go_wp2_with fail;refine abU.mono ?_;rintro e W2 ⟨rfl,Cq,-,aS⟩;obtain⟨kD,Cm⟩:=A_ (Zbw lM.out aS) Cq;obtain⟨AU,mU,cU,rfl⟩:=aL.one Cq.2.1;obtain⟨d0,d1,d2,d3,d4,d5,d6,d7,d8,d9⟩:=iL Cq.1
  replace d7:=ae d7
  replace d9:=ae d9
  have hwB:w.heap.size<=w0.heap.size:=aY.size;clear d0 d1 d2 d3 d4 d5 d6 d8 Cq aS
  by_cases h1:R.2.1=1
  ·have lV:(R.2.1 != 1)=false:=by simpa using h1
   have EW:=X8.1;rw[if_pos h1]at EW;have Rm:=zh EW;clear h1 EW;go_upto_region 7 with(fail);refine ap 12 (ab W2) zK zK zS (aj (aa _)) ?_;simp only[zT]
   iterate 12 (refine ch rfl ?_;simp only[zA])
   intro W3 pN;have GI:=zh pN;clear pN d7 d9;go_wp2
   go_ret3
   rw[Rm.out,X8.out.2.1,X8.out.2.2];exact⟨_,_,rfl,aL.mono (aL.agU Cm.2.1 GI.below) hwB,ab.after aY (ab.after kD GI)⟩
  ·have lV:(R.2.1 != 1)=true:=by simpa using h1
   have EW:=X8.1;rw[if_neg h1]at EW;have Rm:=zh EW;clear h1 EW;go_upto_region 6 with(fail);refine ap 8 (ab W2) zK zK zS (aj (aa _)) ?_;simp only[zT]
   iterate 8 (refine ch rfl ?_;simp only[zA])
   intro W3 pN;have GI:=zh pN;clear pN d7 d9;go_wp2
   go_ret3
   rw[Rm.out,X8.out.2.1,X8.out.2.2];exact⟨_,_,rfl,sr _ _,ab.after aY (ab.after kD GI)⟩
 ·have hk:qG p n l most=false:=by unfold qG;revert hg;cases bV p <;> cases ar n <;> cases fB p n l <;> cases jK 0 200000 most <;> simp
  obtain⟨h0,h1,h2⟩:=X7 hk;obtain⟨HW,H0,H1,H2⟩:=C_ hW h0 h1 h2;clear hW h0 h1 h2;go_wp2
  go_ret3
  rw[H0.out,H1.out,H2.out];exact⟨_,_,rfl,sr _ _,ab.after aY HW⟩
end Go.Proofs.YtnioemnkfojmkaaGreat
