/- Parts of the proof: walks of functions and plain laws. -/
import Derived.Test.YtnioemnkfojmkaaGreatP0
import Derived.Test.YtnioemnkfojmkaaGreatP6
import Derived.Test.YtnioemnkfojmkaaGreatP3
import Derived.Test.YtnioemnkfojmkaaGreatP5
import Derived.Laws.CopyOwn
import Derived.Shelf.Bits.Mul64
set_option maxRecDepth 100000
set_option maxHeartbeats 16000000
namespace Go.Proofs.YtnioemnkfojmkaaGreat
open Go Go.RowKit
section
variable {α : Type} {p : α → Bool} {xs : List α}
theorem Kd (h:xs.any p=false):xs.findIdx? p=none:=by
 rw[List.findIdx?_eq_none_iff];intro x hx;rw[List.any_eq_false]at h;simpa using h x hx
theorem Is {k:Nat} {x:α} (hx:xs[k]?=some x) (hp:p x=true) (h:(xs.take k).any p=false):xs.findIdx? p=some k:=by
 obtain⟨hk,rfl⟩:=List.getElem?_eq_some_iff.1 hx;rw[List.findIdx?_eq_some_iff_getElem];refine⟨hk,hp,fun j hj=>?_⟩
 rw[List.any_eq_false]at h;exact h _ (List.mem_take_iff_getElem.2 ⟨j,by omega,rfl⟩)
theorem y8 {k:Nat} {x:α} (hx:xs[k]?=some x) (h:(xs.take k).any p=false) (hp:p x=false):(xs.take (k+1)).any p=false:=by
 rw[bX hx,List.any_append,h];simp[hp]
end
def RO (p:List Int->Bool) (xs:List (List Int)):Int:=match xs.findIdx? p with | some k=>(k:Int) | none => -1
theorem Oa (p:List Int->Bool) (xs:List (List Int)):decide (0<=RO p xs)=xs.any p:=by
 unfold RO
 cases h:xs.findIdx? p with
 | none=>
  rw[List.findIdx?_eq_none_iff]at h;simp only[decide_eq_false_iff_not.2 (show ¬(0:Int) <= -1 by omega)]
  symm
  rw[List.any_eq_false]
  intro x hx;simp[h x hx]
 | some i=>
  rw[List.findIdx?_eq_some_iff_getElem]at h;obtain⟨hi,hp,_⟩:=h;simp only[Int.natCast_nonneg,decide_true]
  symm
  rw[List.any_eq_true];exact⟨xs[i],List.getElem_mem hi,hp⟩
def Qj (w0:World) (nU:FuncId) (kL:Array Value) (p:List Int->Bool) (xs:List (List Int)):Prop:=
 ∀c∈xs,∀u w,aa w0 w->bO w u c->Calls Tryz.prog nU (#[u]++kL) w fun e w'=>e=.returned (.bool (p c))/\Below w.heap.size w w'
theorem vW (v:Value) (cs:List (List Int)) (nU:FuncId) (kL:Array Value) (p:List Int->Bool) (w:World) (h:a_ w v cs) (im:∀args w,(callFunc nU args).run Tryz.prog w=.ok (.enter nU args) w) (hp:Qj w nU kL p cs):
  Calls Tryz.prog 136 #[v,.func (.func nU) #[] kL] w fun e w'=>e=.returned (.int .i64 (RO p cs))/\Below w.heap.size w w':=by
 have H:=zh h;obtain⟨A,c,rfl,f_,hm,-⟩:=h;unfold maxLen at hm;have Hp:=zh hp;have eg:=im;clear hp
 go_enter Tryz.func136,Tryz.ntmps136
 go_wp2
 go_loopw [8] (fun i wr=>∃k:Nat,k<=cs.length/\i=.int .i64 k/\(cs.take k).any p=false/\aa w wr) (fun i _=>cs.length-(intOf i).toNat)
 case atStart=>exact⟨0,Nat.zero_le _,rfl,rfl,ad _⟩
 case round=>
  obtain⟨k,hk,rfl,l_,hb⟩:=hrel;have pL:=zh l_;have Hb:=zh hb;clear l_ hb
  by_cases aH:k<cs.length
  ·obtain⟨x,b,off,A1,z,hx,rfl,dG,dP,eO,j6⟩:=dT H.out aH;have d0:=bc Hb.out dG;have Hx:=zh hx;have kU:=Hp.out x (List.mem_of_getElem? hx) _ wr Hb.out (j6.ac2 Hb.out.below);obtain⟨y,hy⟩:∃y,y=p x:=⟨_,rfl⟩
   have Hy:=zh hy;rw[<- hy]at kU;have Ke:=zh kU;clear hy kU hx dG j6;go_wp2_with fail;refine Ke.out.mono ?_;rintro e w1 ⟨rfl,aX⟩;have fE:=zh (Hb.out.trans aX);clear aX;cases y
   ·go_wp2;go_roundw
    case rel=>exact⟨k+1,by omega,by go_num,y8 Hx.out pL.out Hy.out.symm,fE.out⟩
    case measure=>simp[intOf];omega
   ·have Hr:Hid (RO p cs=k):=by show _=_;unfold RO;rw[Is Hx.out Hy.out.symm pL.out]
    go_wp2;go_ret;exact⟨congrArg (fun i=>Ending.returned (.int .i64 i)) Hr.out.symm,fE.out⟩
  ·obtain rfl:k=cs.length:=by omega
   have Hr:Hid (RO p cs = -1):=by show _=_;unfold RO;rw[Kd (by have:=pL.out;rwa [List.take_length]at this)]
   go_wp2;go_ret;exact⟨congrArg (fun i=>Ending.returned (.int .i64 i)) Hr.out.symm,Hb.out⟩
theorem iV (v:Value) (xs:List (List Int)) (nU:FuncId) (kL:Array Value) (p:List Int->Bool) (w:World) (h:a_ w v xs) (im:∀args w,(callFunc nU args).run Tryz.prog w=.ok (.enter nU args) w) (hp:Qj w nU kL p xs):
  Calls Tryz.prog 81 #[v,.func (.func nU) #[] kL] w fun e w'=>e=.returned (.bool (xs.any p))/\Below w.heap.size w w':=by
 have hb:=vW v xs nU kL p w h im hp;have hr:=zh (Oa p xs);have Hb:=zh hb;clear hb h im hp
 go_enter Tryz.func81,Tryz.ntmps81
 go_wp2_with fail;refine Hb.out.mono ?_;rintro e w1 ⟨rfl,aX⟩;have fE:=zh aX;clear aX;go_wp2;go_ret;exact⟨ce hr.out,fE.out⟩
theorem vX {s:List Int} {j:Nat} {a:Int} (h:s.drop j=a::s.drop (j+1)) (ha:a<0):dK (s.drop j)=dK (s.drop (j+1)):=by
 rw[h];unfold dK;rw[List.filter_cons_of_neg (by simp;omega)]
theorem vY {s:List Int} {j:Nat} {a:Int} (h:s.drop j=a::s.drop (j+1)) (ha:¬a<0):dK (s.drop j)=a::dK (s.drop (j+1)):=by
 rw[h];unfold dK;rw[List.filter_cons_of_pos (by simp;omega)]
theorem rI (v u:Value) (c row:List Int) (w:World) (h:bO w v c) (h':bO w u row) (hl:row.length<=1000000):
  Calls Tryz.prog 141 #[v,u] w fun e w'=>e=.returned (.bool (et c (du (dK row))))/\Below w.heap.size w w':=by
 have H:=zh h;have H':=zh h';obtain⟨A,z,rfl,f_,hm,-⟩:=h;unfold maxLen at hm;obtain⟨R,hR⟩:∃R,et c (du (dK row))=R:=⟨_,rfl⟩
 have HR:Hid (et c (dK (du row))=R):=by show _=_;rw[<- hR];unfold dK;rw[B9]
 rw[hR];clear h' hR
 go_enter Tryz.func141,Tryz.ntmps141
 go_wp2_with (go_at_call 121;refine(kv _ row _ H'.out hl).mono ?_;rintro e w1 ⟨u1,rfl,ho,aX⟩;obtain⟨l,zO⟩:∃l,du row=l:=⟨_,rfl⟩;rw[zO]at ho;have sT:Hid (et c (dK l)=R):=(zO ▸ HR.out);have Ho:=zh ho.ints;have fE:=zh aX;obtain⟨A2,z2,rfl,Ib,fq,FY⟩:=Ho.out;have NR:=zh FY;have HA:=zh (H.out.ac2 aX);clear ho aX zO FY;unfold maxLen at fq)
 obtain⟨A',z',e,-,-,hA⟩:=HA.out;cases e;have HA:=zh hA;clear hA
 go_loop [5,11] (fun a i=>∃k j:Nat,k<=c.length/\j<=l.length/\a=.int .i64 k/\i=.int .i64 j/\R=et (c.drop k) (dK (l.drop j))) (fun _ i=>l.length-(intOf i).toNat)
 case atStart=>exact⟨0,0,Nat.zero_le _,Nat.zero_le _,rfl,rfl,by simpa using sT.out.symm⟩
 case round=>
  obtain⟨k,j,hk,hj,rfl,rfl,it⟩:=hrel;have lk:=zh it;clear it
  by_cases aH:j<l.length
  ·obtain⟨a,b2,rj,ha,rfl,lK⟩:=ee NR.out aH
   have Ha:Hid (l.drop j=a::l.drop (j+1)):=by
    show _=_
    obtain⟨h1,h2⟩:=List.getElem?_eq_some_iff.1 ha;rw[List.drop_eq_getElem_cons h1,h2]
   clear ha
   by_cases lO:a<0
   ·have Hn:=zh (vX Ha.out lO);go_wp2
    go_round
    case rel=>exact⟨k,j+1,hk,by omega,rfl,by go_num,by rw[lk.out,Hn.out]⟩
    case measure=>simp[intOf];omega
   ·have Hn:=zh (vY Ha.out lO);go_upto_region 6 with(fail)
    go_loop [5] (fun p=>∃k:Nat,k<=c.length/\p=.int .i64 k/\R=et (c.drop k) (dK (l.drop j))) (fun p=>c.length-(intOf p).toNat)
    case atStart=>exact⟨k,hk,rfl,lk.out⟩
    case round=>
     obtain⟨k,hk,rfl,it⟩:=hrel;have lk:=zh it;clear it
     by_cases hkc:k<c.length
     ·obtain⟨x,b,off,hx,rfl,dG⟩:=ee HA.out hkc;have Hx:=zh hx;clear hx
      by_cases DC:x<a
      ·go_wp2
       go_round
       case rel=>exact⟨k+1,by omega,by go_num,by rw[lk.out,Hn.out,yU Hx.out DC]⟩
       case measure=>simp[intOf];omega
      ·by_cases gb:x=a
       ·subst gb;go_wp2
        go_round
        case rel=>exact⟨k+1,j+1,by omega,by omega,by go_num,by go_num,by rw[lk.out,Hn.out,B7 Hx.out]⟩
        case measure=>simp[intOf];omega
       ·have aas:(x != a)=true:=by simpa using gb
        have xR:((k:Int)==(c.length:Int))=false:=by simp;omega
        go_wp2;go_ret;exact⟨aB (by rw[lk.out,Hn.out,yV Hx.out (by omega) gb]),fE.out⟩
     ·obtain rfl:k=c.length:=by omega
      go_wp2;go_ret;exact⟨aB (by rw[lk.out,Hn.out,B8 (Nat.le_refl _)]),fE.out⟩
  ·obtain rfl:j=l.length:=by omega
   go_wp2;go_ret
   exact⟨dn (by rw[lk.out,List.drop_length];cases c.drop k <;> rfl),fE.out⟩
theorem mN (pa pb v:Value) (p:az) (row:List Int) (w:World) (hp:di w pa pb p) (h:bO w v row) (hl:row.length<=1000000):
  Calls Tryz.prog 89 #[.agg #[.int .i64 p.labels,.int .i64 p.degree,pa,pb],v] w fun e w'=>e=.returned (.bool (dL p row))/\Below w.heap.size w w':=by
 obtain⟨w0,ar⟩:∃w0,w0=(w).alloc (.cells #[.int .i64 p.labels,.int .i64 p.degree,pa,pb] 26):=⟨_,rfl⟩
 have bG:Below w.heap.size w w0:=by rw[ar];exact((Below.refl _ _).alloc (by simp) _)
 have cZ:=hp.ac2 bG;have HP:=zh cZ;obtain⟨P0,eP,rfl,ji,dX,bZ⟩:=id cZ.1;unfold maxLen at dX;have jj:=zh bZ;clear bZ;obtain⟨P1,eB,rfl,jk,dY,b_⟩:=id cZ.2;unfold maxLen at dY;have jl:=zh b_;clear b_;clear cZ hp
 have gP:∀W,aa w0 W->W.cell? ⟨w.heap.size,0,none⟩=some (.int .i64 p.labels):=ab (by rw[ar];simp)
 have ig:∀W,aa w0 W->W.cell? ⟨w.heap.size,1,none⟩=some (.int .i64 p.degree):=ab (by rw[ar];simp)
 have ii:∀W,aa w0 W->W.cell? ⟨w.heap.size,2,none⟩=some (.slice P0 p.nodes.length eP):=ab (by rw[ar];simp)
 have mL:∀W,aa w0 W->W.cell? ⟨w.heap.size,3,none⟩=some (.slice P1 p.ac3.length eB):=ab (by rw[ar];simp)
 have bQ:=zh bG;have cS:=zh ar;clear bG ar;have HR:=zh (h.ac2 bQ.out);obtain⟨A,z,rfl,f_,hm,-⟩:=h;unfold maxLen at hm;have yf:=zh (show ∀X,aa w0 X->a_ X (.slice P0 p.nodes.length eP) p.nodes from fun X hX=>(HP.out.ac2 hX).1)
 go_enter Tryz.func89,Tryz.ntmps89
 go_upto_region 1 with(fail);rw[<- cS.out];have bu:aa w0 w0:=ad _
 by_cases pQ:(row.length:Int)=p.degree
 ·have aX:((row.length:Int) != p.degree)=false:=by simpa using pQ
  have Hn:Hid (dL p row=p.nodes.any fun c=>et c (du (dK row))):=by show _=_;unfold dL;rw[show((row.length:Int)==p.degree)=true by simpa using pQ];rfl
  have J6:p.nodes.length<=9223372036854775807:=by obtain⟨A',c',e,uG,U2,-⟩:=(yf.out _ (ad _));cases e;unfold maxLen at U2;omega
  clear pQ;go_wp2
  go_loopw [15] (fun i wr=>∃k:Nat,k<=p.nodes.length/\i=.int .i64 k/\(p.nodes.take k).any (fun c=>et c (du (dK row)))=false/\aa w0 wr) (fun i _=>p.nodes.length-(intOf i).toNat)
  case atStart=>exact⟨0,Nat.zero_le _,rfl,rfl,bu⟩
  case round=>
   obtain⟨k,hk,rfl,l_,hb⟩:=hrel;have pL:=zh l_;have Hb:=zh hb;clear l_ hb bu
   by_cases aH:k<p.nodes.length
   ·obtain⟨x,b,off,A1,z1,hx,rfl,dG,dP,eO,j6⟩:=dT (yf.out _ Hb.out) aH;have Hx:=zh hx;have Bq:=zh j6;obtain⟨y,hy⟩:∃y,et x (du (dK row))=y:=⟨_,rfl⟩
    have Hy:=zh hy;clear hx j6 hy;cases y
    ·go_wp2_with (go_at_call 141;refine(rI _ _ x row _ Bq.out (HR.out.ac2 Hb.out.below) hl).mono ?_;rw[Hy.out];rintro e w2 ⟨rfl,bJ⟩)
     have np:=zh (Hb.out.trans bJ);clear bJ;go_roundw
     case rel=>exact⟨k+1,by omega,by go_num,y8 Hx.out pL.out Hy.out,np.out⟩
     case measure=>simp[intOf];omega
    ·have Hr:Hid (dL p row=true):=by show _=_;rw[Hn.out,List.any_eq_true];exact⟨x,List.mem_of_getElem? Hx.out,Hy.out⟩
     go_wp2_with (go_at_call 141;refine(rI _ _ x row _ Bq.out (HR.out.ac2 Hb.out.below) hl).mono ?_;rw[Hy.out];rintro e w2 ⟨rfl,bJ⟩)
     go_ret;exact⟨dn Hr.out,aa.after bQ.out (Hb.out.trans bJ)⟩
   ·obtain rfl:k=p.nodes.length:=by omega
    have Hr:Hid (dL p row=false):=by show _=_;rw[Hn.out];have:=pL.out;rwa [List.take_length]at this
    go_wp2;go_ret;exact⟨aB Hr.out,aa.after bQ.out Hb.out⟩
 ·have aX:((row.length:Int) != p.degree)=true:=by simpa using pQ
  have Hn:Hid (dL p row=true):=by show _=_;unfold dL;rw[show((row.length:Int)==p.degree)=false by simpa using pQ];rfl
  clear pQ;go_wp2;go_ret;exact⟨dn Hn.out,aa.after bQ.out bu⟩
theorem En {row:List Int} {k:Nat} {x:Int} (hx:row[k]?=some x):dK (row.take (k+1))=dK (row.take k)++(if 0<=x then [x] else []):=by
 rw[bX hx];unfold dK;rw[List.filter_append];congr 1
 by_cases h:0<=x
 ·rw[if_pos h,List.filter_cons_of_pos (by simpa using h)];rfl
 ·rw[if_neg h,List.filter_cons_of_neg (by simpa using h)];rfl
theorem y_ (row:List Int):(dK row).length<=row.length:=List.length_filter_le _ _
theorem zZ:∀args w,(callFunc 139 args).run Tryz.prog w=.ok (.enter 139 args) w:=enters_of Tryz.func139 (by kernel_rfl) rfl
theorem It (u s:Value) (c l:List Int) (b:Nat) (w:World) (h:bO w u c) (hb:w.cell? ⟨b,0,none⟩=some s) (hs:bO w s l):
  Calls Tryz.prog 139 #[u,.pointer (some ⟨b,0,none⟩)] w fun e w'=>e=.returned (.bool (et c l))/\Below w.heap.size w w':=by
 have H:=zh h;have HS:=zh hs;obtain⟨A,z,rfl,-⟩:=h;obtain⟨A2,z2,rfl,-⟩:=hs
 go_enter Tryz.func139,Tryz.ntmps139
 go_wp2_with (go_at_call 140;refine(zP _ _ c l _ H.out HS.out).mono ?_;rintro e w1 ⟨rfl,aX⟩)
 go_ret;exact⟨rfl,aX⟩
theorem jI (pa pb vl:Value) (p:az) (l:List (List Int)) (v:Nat) (row:List Int) (w:World) (hp:di w pa pb p) (h:a_ w vl l) (hv:l[v]?=some row) (hl:row.length<=1000000):
  Calls Tryz.prog 86 #[.agg #[.int .i64 p.labels,.int .i64 p.degree,pa,pb],vl,.int .i64 v] w fun e w'=>e=.returned (.bool (dL p row))/\Below w.heap.size w w':=by
 obtain⟨w0,ar⟩:∃w0,w0=(w).alloc (.cells #[.int .i64 p.labels,.int .i64 p.degree,pa,pb] 26):=⟨_,rfl⟩
 have bG:Below w.heap.size w w0:=by rw[ar];exact((Below.refl _ _).alloc (by simp) _)
 have cZ:=hp.ac2 bG;have HP:=zh cZ;obtain⟨P0,eP,rfl,ji,dX,bZ⟩:=id cZ.1;unfold maxLen at dX;have jj:=zh bZ;clear bZ;obtain⟨P1,eB,rfl,jk,dY,b_⟩:=id cZ.2;unfold maxLen at dY;have jl:=zh b_;clear b_;clear cZ hp
 have gP:∀W,aa w0 W->W.cell? ⟨w.heap.size,0,none⟩=some (.int .i64 p.labels):=ab (by rw[ar];simp)
 have ig:∀W,aa w0 W->W.cell? ⟨w.heap.size,1,none⟩=some (.int .i64 p.degree):=ab (by rw[ar];simp)
 have ii:∀W,aa w0 W->W.cell? ⟨w.heap.size,2,none⟩=some (.slice P0 p.nodes.length eP):=ab (by rw[ar];simp)
 have mL:∀W,aa w0 W->W.cell? ⟨w.heap.size,3,none⟩=some (.slice P1 p.ac3.length eB):=ab (by rw[ar];simp)
 have bQ:=zh bG;have cS:=zh ar;clear bG ar;have HL:=zh (h.ac2 bQ.out);obtain⟨A,z,rfl,f_,hm,-⟩:=h;unfold maxLen at hm;have yf:=zh (show ∀X,aa w0 X->a_ X (.slice P0 p.nodes.length eP) p.nodes from fun X hX=>(HP.out.ac2 hX).1)
 have lW:=al hv;obtain⟨fo,b,off,A1,z1,hx,rfl,dG,dP,eO,j6⟩:=dT HL.out lW
 obtain rfl:fo=row:=by rw[hv]at hx;exact(Option.some.inj hx).symm
 have q1:=ab dG;have HX:=zh j6;have U7:fo.length<=9223372036854775807:=by omega
 clear hx dG j6 hv
 go_enter Tryz.func86,Tryz.ntmps86
 go_upto_region 1 with(fail);rw[<- cS.out];have kV:dL p fo=(!((fo.length:Int)==p.degree)||p.nodes.any fun c=>et c (du (dK fo))):=rfl
 by_cases pQ:(fo.length:Int)=p.degree
 ·have aX:((fo.length:Int) != p.degree)=false:=by simpa using pQ
  have Hn:Hid (dL p fo=p.nodes.any fun c=>et c (du (dK fo))):=by show _=_;rw[kV,show((fo.length:Int)==p.degree)=true by simpa using pQ];rfl
  clear pQ kV;refine am 8 (aa w0) (by kernel_rfl) (by kernel_rfl) (by simp) (ag (ad _)) ?_;simp only[zT]
  iterate 8 (refine bF rfl ?_;simp only[zA])
  intro W hW;obtain⟨bk,RP⟩:∃bk,bk=W.heap.size:=⟨_,rfl⟩
  obtain⟨W1,js⟩:∃W1,W1=W.alloc (.cells #[.slice none 0 0] 28):=⟨_,rfl⟩
  have dw:JY bk W [] W1:=by rw[RP,js];exact⟨⟨_,Boxed.new _ _ _,iP _ _⟩,ao _ _,by simp⟩
  have ll:aa w0 W1:=by rw[js];exact ae _ hW
  have jH:=zh dw;have hWb:aa w0 W:=hW;have HWb:=zh hWb;have Hbk:=zh RP;have Wo:=zh js;clear dw hW js RP hWb;go_upto_region 4 with(fail);rw[<- Hbk.out,<- Wo.out];go_wp2
  go_loopw [23] (fun i wr=>∃k:Nat,k<=fo.length/\i=.int .i64 k/\JY bk W (dK (fo.take k)) wr/\aa w0 wr) (fun i _=>fo.length-(intOf i).toNat)
  case atStart=>exact⟨0,Nat.zero_le _,rfl,by simpa[dK]using jH.out,ll⟩
  case round=>
   obtain⟨k,hk,rfl,Cm,hb⟩:=hrel;have U8:=zh Cm;have Hb:=zh hb;clear ll Cm
   by_cases aH:k<fo.length
   ·obtain⟨Bl,jn,e,-,-,nN⟩:=HX.out;cases e;obtain⟨x,b1,D5,hx,rfl,sr⟩:=ee nN aH;have qx:=ab sr;have Hx:=zh hx;have Jp:=zh (En hx);clear hx sr nN
    by_cases qz:0<=x
    ·obtain⟨⟨u,dj,aC⟩,zd,eR⟩:=U8.out
     have dQ:(dK (fo.take k)).length<=1000000:=Nat.le_trans (y_ _) (by rw[List.length_take];omega)
     have hd:=dj.cell;have HO:=zh aC;have Qk:=zh dj;have HBw:=zh zd
     have Jq:Hid ((dK (fo.take k)).length+1<=17592186044416):=by show _<=_;omega
     have uN:bk+1<=wr.heap.size:=eR;have d2:(wr.alloc (.cells #[.int .i64 x] 3)).cell? ⟨bk,0,none⟩=some u:=(dj.alloc _).cell;clear aC dj zd dQ eR
     go_wp2_with (at_builtin;refine rs rfl _ _ rfl rfl (HO.out.ac2 (ao _ _)) wr.heap.size x rfl (by simp[go_sem]) Jq.out (by simp;omega) ?_;intro g cap w3 iH nB aax hl3;obtain⟨kb,RQ,RR,Ql⟩:=yZ Qk.out HO.out HBw.out uN iH nB;have hf3:=kb.frozen;have hd3:=kb.cell;have Qm:=zh Ql;clear RQ RR Ql iH nB aax)
     have HF:Hid (aa w0 (w3.setCell ⟨bk,0,none⟩ (.slice (some ⟨g,0,none⟩) ((dK (fo.take k)).length+1) cap))):=aa.trans HWb.out (Hbk.out ▸ Qm.out.2.1);clear hf3 hd3 kb hl3 d2 hd hb;go_roundw
     case rel=>exact⟨k+1,by omega,by go_num,by rw[Jp.out,if_pos qz];exact Qm.out,HF.out⟩
     case measure=>simp[intOf];omega
    ·go_wp2;go_roundw
     case rel=>exact⟨k+1,by omega,by go_num,by rw[Jp.out,if_neg qz,List.append_nil];exact U8.out,hb⟩
     case measure=>simp[intOf];omega
   ·obtain rfl:k=fo.length:=by omega
    rw[List.take_length]at U8;obtain⟨⟨u,dj,aC⟩,zd,eR⟩:=U8.out;have hd:=dj.cell;have HO:=zh aC;have Qk:=zh dj;have HBw:=zh zd;have ss:(dK fo).length<=17592186044416:=Nat.le_trans (y_ _) (by omega);obtain⟨A9,z9,rfl,-⟩:=id aC.ints;clear aC dj zd hb;go_wp2_with fail;refine(vx _ (dK fo) _ _ HO.out ss).mono ?_;rintro e w4 ⟨rfl,xS,U9⟩
    have kV:some bk≠(Value.slice A9 (dK fo).length z9).ownBlock:=fun e=>by have:=(World.ownsRow.lt HO.out bk e.symm).1;omega
    have qy:=Qk.out.kept U9 kV;have hd4:=qy.cell;have Iu:Hid (bO w4 (.slice A9 (dK fo).length z9) (du (dK fo))):=Own.ints xS
    have Ng:Hid (aa w0 w4):=aa.trans HWb.out (Hbk.out ▸ HBw.out.grown U9 (by have:=HBw.out.size;omega) (fun k e=>by have:=(World.ownsRow.lt HO.out k e).1;omega))
    have iu:=zh qy;clear xS U9 qy kV hd;have qg:=Ng.out;go_wp2_with fail;obtain⟨r,hr⟩:∃r,dL p fo=r:=⟨_,rfl⟩
    have Hr:=zh hr;clear hr qg;refine(iV _ p.nodes 139 #[.pointer (some ⟨bk,0,none⟩)] (fun c=>et c (du (dK fo))) _ (yf.out _ Ng.out) zZ (fun c hc u X hX hu=>It u _ c _ bk X hu (bc hX iu.out.cell) (Iu.out.ac2 hX.below))).mono ?_
    rw[<- Hn.out,Hr.out];rintro e w5 ⟨rfl,mP⟩;have HS5:=zh (Ng.out.trans mP);clear mP;go_wp2;go_ret;exact⟨ce Hr.out.symm,aa.after bQ.out HS5.out⟩
 ·have aX:((fo.length:Int) != p.degree)=true:=by simpa using pQ
  have Hn:Hid (dL p fo=true):=by show _=_;rw[kV,show((fo.length:Int)==p.degree)=false by simpa using pQ];rfl
  clear pQ kV;refine am 8 (aa w0) (by kernel_rfl) (by kernel_rfl) (by simp) (ag (ad _)) ?_;simp only[zT]
  iterate 8 (refine bF rfl ?_;simp only[zA])
  intro W hW;have HW:=zh hW;clear hW;go_wp2;go_ret;exact⟨dn Hn.out,aa.after bQ.out HW.out⟩
def eC (dl:List (List (Int×Int))) (l:List (List Int)):Prop:=l.length=dl.length/\∀(v:Nat) (es:List (Int×Int)) (row:List Int),dl[v]?=some es->l[v]?=some row->row.length=es.length
theorem qA {n:aw} (hn:aW n=true) {v i:Nat} {es:List (Int×Int)} {f:Int×Int} (ca:n.ends[v]?=some es) (hf:es[i]?=some f):
  ∃(k j:Nat) (Oc:List (Int×Int)),f=((k:Int),(j:Int))/\n.ends[k]?=some Oc/\j<Oc.length:=by
 have hv:=al ca;have hi:=al hf
 have hp:dq n.ends (v:Int) (i:Int)=true:=by
  unfold dq;rw[Bool.and_eq_true,aL,aL];simp only[Int.toNat_natCast];rw[ak ca];omega
 have he:iC n.ends (v:Int) (i:Int)=f:=by
  unfold iC;simp only[Int.toNat_natCast];rw[ak ca];exact ak hf
 obtain⟨h1,-⟩:=yS hn hp;rw[he]at h1;unfold dq at h1;rw[Bool.and_eq_true,aL,aL]at h1;obtain⟨Oc,h2⟩:=ay n.ends f.1.toNat (by omega);rw[ak h2]at h1
 exact⟨f.1.toNat,f.2.toNat,Oc,by rw[Prod.ext_iff];exact⟨by simp;omega,by simp;omega⟩,h2,by omega⟩
theorem sU {w:World} {A:Option Addr} {c:Nat} {dl:List (List (Int×Int))} (h:no w (.slice A dl.length c) dl) {v i:Nat} {es:List (Int×Int)} {f:Int×Int} (hv:dl[v]?=some es) (hi:es[i]?=some f):
  ∃b off b2 rj z,A=some ⟨b,off,none⟩/\w.cell? ⟨b,off+v,none⟩=some (.slice (some ⟨b2,rj,none⟩) es.length z)/\w.cell? ⟨b2,rj+i*2,none⟩=some (.int .i64 f.1)/\w.cell? ⟨b2,rj+i*2+1,none⟩=some (.int .i64 f.2):=by
 obtain⟨A',c',e,-,-,hA⟩:=h;cases e;obtain⟨b,off,u,vv,h1,⟨A1,z,rfl,-,-,nN⟩⟩:=hA v es hv;obtain⟨b2,rj,rfl,h2,h3⟩:=nN i f hi;exact⟨b,off,b2,rj,z,vv,h1,h2,h3⟩
theorem jt {w:World} {A:Option Addr} {c:Nat} {l:List (List Int)} (h:a_ w (.slice A l.length c) l) {v i:Nat} {row:List Int} {x:Int} (hv:l[v]?=some row) (hi:row[i]?=some x):
  ∃b off b2 rj z,A=some ⟨b,off,none⟩/\w.cell? ⟨b,off+v,none⟩=some (.slice (some ⟨b2,rj,none⟩) row.length z)/\w.cell? ⟨b2,rj+i,none⟩=some (.int .i64 x):=by
 obtain⟨A',c',e,-,-,hA⟩:=h;cases e;obtain⟨b,off,u,vv,h1,⟨A1,z,rfl,-,-,nN⟩⟩:=hA v row hv;obtain⟨b2,rj,rfl,h2⟩:=nN i x hi;exact⟨b,off,b2,rj,z,vv,h1,h2⟩
theorem jJ (pa pb ve vi vn vl:Value) (p:az) (n:aw) (l:List (List Int)) (v i:Nat) (row:List Int) (w:World) (hp:di w pa pb p) (h:aU w ve vi vn n) (hl:a_ w vl l) (hn:aW n=true) (eJ:eC n.ends l) (ct:dR p.ac3) (iI:p.ac3.length<=1048576) (hv:l[v]?=some row) (hi:i<row.length):
  Calls Tryz.prog 85 #[.agg #[.int .i64 p.labels,.int .i64 p.degree,pa,pb],.agg #[ve,vi,vn],vl,.int .i64 v,.int .i64 i] w fun e w'=>e=.returned (.bool (fc p n.ends l ((v:Int),(i:Int))))/\Below w.heap.size w w':=by
 obtain⟨w0,ar⟩:∃w0,w0=((w).alloc (.cells #[.int .i64 p.labels,.int .i64 p.degree,pa,pb] 26)).alloc (.cells #[ve,vi,vn] 30):=⟨_,rfl⟩
 have bG:Below w.heap.size w w0:=by rw[ar];exact(((Below.refl _ _).alloc (by simp <;> omega) _).alloc (by simp <;> omega) _)
 have H:=zh (h.ac2 bG);obtain⟨h1,h2,h3⟩:=h.ac2 bG;obtain⟨A,c,rfl,f_,hm,hA⟩:=h1;obtain⟨A2,c2,rfl,_,fq,_⟩:=h2;obtain⟨A3,c3,rfl,_,fF,_⟩:=h3;unfold maxLen at hm fq fF;have cZ:=hp.ac2 bG;have HP:=zh cZ;obtain⟨P0,eP,rfl,ji,dX,bZ⟩:=id cZ.1;unfold maxLen at dX;have jj:=zh bZ;clear bZ;obtain⟨P1,eB,rfl,jk,dY,b_⟩:=id cZ.2;unfold maxLen at dY;have jl:=zh b_;clear b_;clear cZ hp
 have gP:∀W,aa w0 W->W.cell? ⟨w.heap.size,0,none⟩=some (.int .i64 p.labels):=ab (by rw[ar];simp)
 have ig:∀W,aa w0 W->W.cell? ⟨w.heap.size,1,none⟩=some (.int .i64 p.degree):=ab (by rw[ar];simp)
 have ii:∀W,aa w0 W->W.cell? ⟨w.heap.size,2,none⟩=some (.slice P0 p.nodes.length eP):=ab (by rw[ar];simp)
 have mL:∀W,aa w0 W->W.cell? ⟨w.heap.size,3,none⟩=some (.slice P1 p.ac3.length eB):=ab (by rw[ar];simp)
 have rJ:∀W,aa w0 W->W.cell? ⟨w.heap.size+1,0,none⟩=some (.slice A n.ends.length c):=ab (by rw[ar];simp)
 have tD:∀W,aa w0 W->W.cell? ⟨w.heap.size+1,1,none⟩=some (.slice A2 n.ids.length c2):=ab (by rw[ar];simp)
 have tE:∀W,aa w0 W->W.cell? ⟨w.heap.size+1,2,none⟩=some (.slice A3 n.ac1.length c3):=ab (by rw[ar];simp)
 have bQ:=zh bG;have cS:=zh ar;have HA:=zh hA;clear hA h;clear bG ar;have HL:=zh (hl.ac2 bQ.out);obtain⟨AL,cL,rfl,-⟩:=hl;have f5:=zh (show ∀X,aa w0 X->di X (.slice P0 p.nodes.length eP) (.slice P1 p.ac3.length eB) p from fun X hX=>HP.out.ac2 hX)
 have lW:=al hv
 obtain⟨es,ca⟩:=ay n.ends v (by rw[<- eJ.1];exact lW)
 have xT:=eJ.2 v es row ca hv;obtain⟨f,hf⟩:=ay es i (by omega);obtain⟨k,j,Oc,rfl,yh,hj⟩:=qA hn ca hf
 have ss:k<l.length:=by rw[eJ.1];exact al yh
 obtain⟨nC,jo⟩:=ay l k ss;have RS:=eJ.2 k Oc nC yh jo;have uF:j<nC.length:=by omega
 obtain⟨a,ha⟩:=ay row i hi;obtain⟨b,hb⟩:=ay nC j uF;have U_:v<n.ends.length:=al ca;have Od:i<es.length:=by omega
 have hR:Hid (fc p n.ends l ((v:Int),(i:Int))=(decide (a<0)||(decide (b<0)||edgeB p a b))):=by
  show _=_
  have e1:(n.ends.getD v []).getD i (0,0)=((k:Int),(j:Int)):=by rw[ak ca,ak hf]
  have e2:cF l ((v:Int),(i:Int))=a:=by unfold cF;simp only[Int.toNat_natCast];rw[ak hv,ak ha]
  have e3:cF l ((k:Int),(j:Int))=b:=by unfold cF;simp only[Int.toNat_natCast];rw[ak jo,ak hb]
  unfold fc;simp only[Int.toNat_natCast,e1,e2,e3]
 obtain⟨b1,o1,b2,o2,z1,rfl,c1,c2,c3⟩:=sU H.out.es ca hf;obtain⟨b3,o3,b4,o4,z2,rfl,c4,c5⟩:=jt HL.out hv ha;obtain⟨b5,o5,b6,o6,z3,e,c6,c7⟩:=jt HL.out jo hb;cases e;have q1:=ab c1;have q2:=ab c2;have q3:=ab c3;have q4:=ab c4;have q5:=ab c5;have q6:=ab c6;have q7:=ab c7;clear c1 c2 c3 c4 c5 c6 c7 ha hb xT RS ca yh jo hf hv hn eJ hj;have jP:=zh ct;clear ct
 go_enter Tryz.func85,Tryz.ntmps85
 go_upto_region 1 with(fail);rw[<- cS.out];have bu:aa w0 w0:=ad _;go_upto_region 2 with(fail);obtain⟨bx,dj⟩:∃bx,bx=w0.heap.size:=⟨_,rfl⟩
 obtain⟨W1,js⟩:∃W1,W1=w0.alloc (.cells #[.int .i64 k,.int .i64 j] 104):=⟨_,rfl⟩
 have dw:aa w0 W1:=by rw[js];exact ae _ bu
 have g1:∀W,aa W1 W->W.cell? ⟨bx,0,none⟩=some (.int .i64 k):=ab (by rw[dj,js];simp)
 have g2:∀W,aa W1 W->W.cell? ⟨bx,1,none⟩=some (.int .i64 j):=ab (by rw[dj,js];simp)
 rw[<- js,<- dj];have jH:=zh dw;have t1:=aj q1 dw;have t4:=aj q4 dw;have t5:=aj q5 dw;have t6:=aj q6 dw;have t7:=aj q7 dw;clear bu js dj dw q1 q2 q3 q4 q5 q6 q7;refine am 18 (aa W1) (by kernel_rfl) (by kernel_rfl) (by simp) (ag (ad _)) ?_;simp only[zT]
 iterate 18 (refine bF rfl ?_;simp only[zA])
 intro W2 gm;have pl:=zh (jH.out.after gm);clear gm t1 t4 t5 t6 t7 g1 g2;go_upto_region 3 with(fail);have pa0:=aj gP pl.out;have pa1:=aj ig pl.out;have pa2:=aj ii pl.out;have pa3:=aj mL pl.out;refine bD 13 (aa W2) (ad _) ?_;simp only[zT]
 iterate 3 (refine bF rfl ?_;simp only[zA])
 iterate 2 (refine gT rfl rfl ?_;simp only[zA])
 (first | refine cd rfl rfl ?_ | (refine bF rfl ?_));simp only[zA]
 refine bF rfl ?_;simp only[zA]
 iterate 3 (refine gT rfl rfl ?_;simp only[zA])
 refine bv (v:=?_) rfl rfl ?_ ?_;rotate_left;(intro hb;intro W hW;unfold ba;go_simp;(with_reducible refine(rH _ _ p a b W (f5.out W (pl.out.after hW)) jP.out iI).mono ?_);rintro e W' ⟨rfl,aG⟩;first | (refine⟨?_,aa.trans hW aG⟩;with_reducible rfl) | (subst aG;refine⟨?_,hW⟩;with_reducible rfl))
 simp only[zA]
 (first | refine cd rfl rfl ?_ | (refine bF rfl ?_));simp only[zA]
 refine bF rfl ?_;simp only[zA]
 intro W3 ki;have sV:=zh (pl.out.after ki);clear ki;go_wp2;go_ret;exact⟨ce (by rw[hR.out,Bool.or_assoc]),aa.after bQ.out sV.out⟩
theorem mT (pa pb ve vi vn vl:Value) (p:az) (n:aw) (l:List (List Int)) (v i:Nat) (row:List Int) (w:World) (hp:di w pa pb p) (h:aU w ve vi vn n) (hl:a_ w vl l) (hn:aW n=true) (eJ:eC n.ends l) (ct:dR p.ac3) (iI:p.ac3.length<=1048576) (hv:l[v]?=some row) (hi:i<row.length):
  Calls Tryz.prog 90 #[.agg #[.int .i64 p.labels,.int .i64 p.degree,pa,pb],.agg #[ve,vi,vn],vl,.int .i64 v,.int .i64 i] w fun e w'=>e=.returned (.bool (fc p n.ends l ((v:Int),(i:Int))))/\Below w.heap.size w w':=by
 obtain⟨w0,ar⟩:∃w0,w0=((w).alloc (.cells #[.int .i64 p.labels,.int .i64 p.degree,pa,pb] 26)).alloc (.cells #[ve,vi,vn] 30):=⟨_,rfl⟩
 have bG:Below w.heap.size w w0:=by rw[ar];exact(((Below.refl _ _).alloc (by simp <;> omega) _).alloc (by simp <;> omega) _)
 have H:=zh (h.ac2 bG);obtain⟨h1,h2,h3⟩:=h.ac2 bG;obtain⟨A,c,rfl,f_,hm,hA⟩:=h1;obtain⟨A2,c2,rfl,_,fq,_⟩:=h2;obtain⟨A3,c3,rfl,_,fF,_⟩:=h3;unfold maxLen at hm fq fF;have cZ:=hp.ac2 bG;have HP:=zh cZ;obtain⟨P0,eP,rfl,ji,dX,bZ⟩:=id cZ.1;unfold maxLen at dX;have jj:=zh bZ;clear bZ;obtain⟨P1,eB,rfl,jk,dY,b_⟩:=id cZ.2;unfold maxLen at dY;have jl:=zh b_;clear b_;clear cZ hp
 have gP:∀W,aa w0 W->W.cell? ⟨w.heap.size,0,none⟩=some (.int .i64 p.labels):=ab (by rw[ar];simp)
 have ig:∀W,aa w0 W->W.cell? ⟨w.heap.size,1,none⟩=some (.int .i64 p.degree):=ab (by rw[ar];simp)
 have ii:∀W,aa w0 W->W.cell? ⟨w.heap.size,2,none⟩=some (.slice P0 p.nodes.length eP):=ab (by rw[ar];simp)
 have mL:∀W,aa w0 W->W.cell? ⟨w.heap.size,3,none⟩=some (.slice P1 p.ac3.length eB):=ab (by rw[ar];simp)
 have rJ:∀W,aa w0 W->W.cell? ⟨w.heap.size+1,0,none⟩=some (.slice A n.ends.length c):=ab (by rw[ar];simp)
 have tD:∀W,aa w0 W->W.cell? ⟨w.heap.size+1,1,none⟩=some (.slice A2 n.ids.length c2):=ab (by rw[ar];simp)
 have tE:∀W,aa w0 W->W.cell? ⟨w.heap.size+1,2,none⟩=some (.slice A3 n.ac1.length c3):=ab (by rw[ar];simp)
 have bQ:=zh bG;have cS:=zh ar;have HA:=zh hA;clear hA h;clear bG ar;have HL:=zh (hl.ac2 bQ.out);obtain⟨AL,cL,rfl,-⟩:=hl;have f5:=zh (show ∀X,aa w0 X->di X (.slice P0 p.nodes.length eP) (.slice P1 p.ac3.length eB) p from fun X hX=>HP.out.ac2 hX)
 have lW:=al hv
 obtain⟨es,ca⟩:=ay n.ends v (by rw[<- eJ.1];exact lW)
 have xT:=eJ.2 v es row ca hv;obtain⟨f,hf⟩:=ay es i (by omega);obtain⟨k,j,Oc,rfl,yh,hj⟩:=qA hn ca hf
 have ss:k<l.length:=by rw[eJ.1];exact al yh
 obtain⟨nC,jo⟩:=ay l k ss;have RS:=eJ.2 k Oc nC yh jo;have uF:j<nC.length:=by omega
 obtain⟨a,ha⟩:=ay row i hi;obtain⟨b,hb⟩:=ay nC j uF;have U_:v<n.ends.length:=al ca;have Od:i<es.length:=by omega
 have hR:Hid (fc p n.ends l ((v:Int),(i:Int))=(decide (a<0)||(decide (b<0)||edgeB p a b))):=by
  show _=_
  have e1:(n.ends.getD v []).getD i (0,0)=((k:Int),(j:Int)):=by rw[ak ca,ak hf]
  have e2:cF l ((v:Int),(i:Int))=a:=by unfold cF;simp only[Int.toNat_natCast];rw[ak hv,ak ha]
  have e3:cF l ((k:Int),(j:Int))=b:=by unfold cF;simp only[Int.toNat_natCast];rw[ak jo,ak hb]
  unfold fc;simp only[Int.toNat_natCast,e1,e2,e3]
 obtain⟨b1,o1,b2,o2,z1,rfl,c1,c2,c3⟩:=sU H.out.es ca hf;obtain⟨b3,o3,b4,o4,z2,rfl,c4,c5⟩:=jt HL.out hv ha;obtain⟨b5,o5,b6,o6,z3,e,c6,c7⟩:=jt HL.out jo hb;cases e;have q1:=ab c1;have q2:=ab c2;have q3:=ab c3;have q4:=ab c4;have q5:=ab c5;have q6:=ab c6;have q7:=ab c7;clear c1 c2 c3 c4 c5 c6 c7 ha hb xT RS ca yh jo hf hv hn eJ hj;have jP:=zh ct;clear ct
 go_enter Tryz.func90,Tryz.ntmps90
 go_upto_region 1 with(fail);rw[<- cS.out];have bu:aa w0 w0:=ad _;go_upto_region 2 with(fail);obtain⟨bx,dj⟩:∃bx,bx=w0.heap.size:=⟨_,rfl⟩
 obtain⟨W1,js⟩:∃W1,W1=w0.alloc (.cells #[.int .i64 k,.int .i64 j] 104):=⟨_,rfl⟩
 have dw:aa w0 W1:=by rw[js];exact ae _ bu
 have g1:∀W,aa W1 W->W.cell? ⟨bx,0,none⟩=some (.int .i64 k):=ab (by rw[dj,js];simp)
 have g2:∀W,aa W1 W->W.cell? ⟨bx,1,none⟩=some (.int .i64 j):=ab (by rw[dj,js];simp)
 rw[<- js,<- dj];have jH:=zh dw;have t1:=aj q1 dw;have t4:=aj q4 dw;have t5:=aj q5 dw;have t6:=aj q6 dw;have t7:=aj q7 dw;clear bu js dj dw q1 q2 q3 q4 q5 q6 q7;refine am 18 (aa W1) (by kernel_rfl) (by kernel_rfl) (by simp) (ag (ad _)) ?_;simp only[zT]
 iterate 18 (refine bF rfl ?_;simp only[zA])
 intro W2 gm;have pl:=zh (jH.out.after gm);clear gm t1 t4 t5 t6 t7 g1 g2;go_upto_region 3 with(fail);have pa0:=aj gP pl.out;have pa1:=aj ig pl.out;have pa2:=aj ii pl.out;have pa3:=aj mL pl.out;refine bD 13 (aa W2) (ad _) ?_;simp only[zT]
 iterate 3 (refine bF rfl ?_;simp only[zA])
 iterate 2 (refine gT rfl rfl ?_;simp only[zA])
 (first | refine cd rfl rfl ?_ | (refine bF rfl ?_));simp only[zA]
 refine bF rfl ?_;simp only[zA]
 iterate 3 (refine gT rfl rfl ?_;simp only[zA])
 refine bv (v:=?_) rfl rfl ?_ ?_;rotate_left;(intro hb;intro W hW;unfold ba;go_simp;(with_reducible refine(Em _ _ p a b W (f5.out W (pl.out.after hW)) jP.out iI).mono ?_);rintro e W' ⟨rfl,aG⟩;first | (refine⟨?_,aa.trans hW aG⟩;with_reducible rfl) | (subst aG;refine⟨?_,hW⟩;with_reducible rfl))
 simp only[zA]
 (first | refine cd rfl rfl ?_ | (refine bF rfl ?_));simp only[zA]
 refine bF rfl ?_;simp only[zA]
 intro W3 ki;have sV:=zh (pl.out.after ki);clear ki;go_wp2;go_ret;exact⟨ce (by rw[hR.out,Bool.or_assoc]),aa.after bQ.out sV.out⟩
theorem iW {q:Nat->Bool} {k:Nat} (h:(List.range k).all q=true) (hk:q k=true):(List.range (k+1)).all q=true:=by rw[List.range_succ,List.all_append,h];simp[hk]
theorem gH {q:Nat->Bool} {k n:Nat} (hn:k<n) (hk:q k=false):(List.range n).all q=false:=by
 rw[Bool.eq_false_iff];intro h;rw[List.all_eq_true]at h;rw[h k (List.mem_range.2 hn)]at hk;cases hk
theorem ze (pa pb ve vi vn vl:Value) (p:az) (n:aw) (l:List (List Int)) (w:World) (hp:di w pa pb p) (h:aU w ve vi vn n) (hl:a_ w vl l) (hn:aW n=true) (eJ:eC n.ends l) (ct:dR p.ac3) (iI:p.ac3.length<=1048576) (nD:∀(v:Nat) (row:List Int),l[v]?=some row->row.length<=1000000):
  Calls Tryz.prog 84 #[.agg #[.int .i64 p.labels,.int .i64 p.degree,pa,pb],.agg #[ve,vi,vn],vl] w fun e w'=>e=.returned (.bool (dS p n.ends l))/\Below w.heap.size w w':=by
 obtain⟨w0,ar⟩:∃w0,w0=((w).alloc (.cells #[.int .i64 p.labels,.int .i64 p.degree,pa,pb] 26)).alloc (.cells #[ve,vi,vn] 30):=⟨_,rfl⟩
 have bG:Below w.heap.size w w0:=by rw[ar];exact(((Below.refl _ _).alloc (by simp <;> omega) _).alloc (by simp <;> omega) _)
 have H:=zh (h.ac2 bG);obtain⟨h1,h2,h3⟩:=h.ac2 bG;obtain⟨A,c,rfl,f_,hm,hA⟩:=h1;obtain⟨A2,c2,rfl,_,fq,_⟩:=h2;obtain⟨A3,c3,rfl,_,fF,_⟩:=h3;unfold maxLen at hm fq fF;have cZ:=hp.ac2 bG;have HP:=zh cZ;obtain⟨P0,eP,rfl,ji,dX,bZ⟩:=id cZ.1;unfold maxLen at dX;have jj:=zh bZ;clear bZ;obtain⟨P1,eB,rfl,jk,dY,b_⟩:=id cZ.2;unfold maxLen at dY;have jl:=zh b_;clear b_;clear cZ hp
 have gP:∀W,aa w0 W->W.cell? ⟨w.heap.size,0,none⟩=some (.int .i64 p.labels):=ab (by rw[ar];simp)
 have ig:∀W,aa w0 W->W.cell? ⟨w.heap.size,1,none⟩=some (.int .i64 p.degree):=ab (by rw[ar];simp)
 have ii:∀W,aa w0 W->W.cell? ⟨w.heap.size,2,none⟩=some (.slice P0 p.nodes.length eP):=ab (by rw[ar];simp)
 have mL:∀W,aa w0 W->W.cell? ⟨w.heap.size,3,none⟩=some (.slice P1 p.ac3.length eB):=ab (by rw[ar];simp)
 have rJ:∀W,aa w0 W->W.cell? ⟨w.heap.size+1,0,none⟩=some (.slice A n.ends.length c):=ab (by rw[ar];simp)
 have tD:∀W,aa w0 W->W.cell? ⟨w.heap.size+1,1,none⟩=some (.slice A2 n.ids.length c2):=ab (by rw[ar];simp)
 have tE:∀W,aa w0 W->W.cell? ⟨w.heap.size+1,2,none⟩=some (.slice A3 n.ac1.length c3):=ab (by rw[ar];simp)
 have bQ:=zh bG;have cS:=zh ar;have HA:=zh hA;clear hA h;clear bG ar;have HL:=zh (hl.ac2 bQ.out);obtain⟨AL,cL,rfl,Qn,yi,-⟩:=hl;unfold maxLen at yi;have f5:=zh (show ∀X,aa w0 X->di X (.slice P0 p.nodes.length eP) (.slice P1 p.ac3.length eB) p from fun X hX=>HP.out.ac2 hX)
 have fU:=zh eJ;have jP:=zh ct;have Cn:=zh nD;clear eJ ct nD;have RT:Hid (dS p n.ends l=(List.range l.length).all (g_ p n.ends l)):=rfl
 go_enter Tryz.func84,Tryz.ntmps84
 go_upto_region 1 with(fail);rw[<- cS.out];have bu:aa w0 w0:=ad _;go_wp2
 go_loopw [11] (fun i wr=>∃k:Nat,k<=l.length/\i=.int .i64 k/\(List.range k).all (g_ p n.ends l)=true/\aa w0 wr) (fun i _=>l.length-(intOf i).toNat)
 case atStart=>exact⟨0,Nat.zero_le _,rfl,rfl,bu⟩
 case round=>
  obtain⟨k,hk,rfl,bH,hb⟩:=hrel;have eV:=zh bH;have Hb:=zh hb;clear bH bu
  by_cases aH:k<l.length
  ·obtain⟨row,b,off,A1,z1,hx,rfl,dG,dP,eO,j6⟩:=dT (HL.out.ac2 hb.below) aH;have ch:=zh hx;have Bq:=zh j6;have mW:=Cn.out k row hx;have q1:=ab dG
   have RU:Hid (g_ p n.ends l k=(dL p row&&(List.range row.length).all fun i=>fc p n.ends l ((k:Int),(i:Int)))):=by show _=_;unfold g_;rw[ak hx]
   clear hx j6 dG;cases kV:dL p row
   ·have Co:=zh kV
    have me:Hid (dS p n.ends l=false):=by show _=_;rw[RT.out];exact gH aH (by rw[RU.out,kV];rfl)
    clear kV;have hq:=q1 _ (ad _)
    go_wp2_with (go_at_call 86;refine(jI _ _ _ p l k row _ (f5.out _ Hb.out) (HL.out.ac2 Hb.out.below) ch.out mW).mono ?_;rw[Co.out];rintro e w2 ⟨rfl,bJ⟩)
    go_ret;exact⟨aB me.out,aa.after bQ.out (Hb.out.trans bJ)⟩
   ·have Co:=zh kV;have hq:=q1 _ (ad _);clear kV
    go_upto_region 6 with(go_at_call 86;refine(jI _ _ _ p l k row _ (f5.out _ Hb.out) (HL.out.ac2 Hb.out.below) ch.out mW).mono ?_;rw[Co.out];rintro e w2 ⟨rfl,bJ⟩)
    have dZ:aa w0 w2:=Hb.out.trans bJ;have q2:=aj q1 bJ;have lX:=q2 _ (ad _);clear bJ hq q1 hb;go_wp2
    go_loopw [24] (fun i wr=>∃j:Nat,j<=row.length/\i=.int .i64 j/\((List.range j).all fun i=>fc p n.ends l ((k:Int),(i:Int)))=true/\aa w0 wr) (fun i _=>row.length-(intOf i).toNat)
    case atStart=>exact⟨0,Nat.zero_le _,rfl,rfl,dZ⟩
    case round=>
     obtain⟨j,hj,rfl,Oe,hb⟩:=hrel;have Of:=zh Oe;have Hb:=zh hb;clear Oe dZ lX
     by_cases yY:j<row.length
     ·cases da:fc p n.ends l ((k:Int),(j:Int))
      ·have cB:=zh da
       have me:Hid (dS p n.ends l=false):=by show _=_;rw[RT.out];exact gH aH (by rw[RU.out,gH yY da,Bool.and_false])
       clear da
       go_wp2_with (go_at_call 85;refine(jJ _ _ _ _ _ _ p n l k j row _ (f5.out _ Hb.out) (H.out.ac2 Hb.out.below) (HL.out.ac2 Hb.out.below) hn fU.out jP.out iI ch.out yY).mono ?_;rw[cB.out];rintro e w3 ⟨rfl,aG⟩)
       go_ret;exact⟨aB me.out,aa.after bQ.out (Hb.out.trans aG)⟩
      ·have cB:=zh da;clear da
       go_wp2_with (go_at_call 85;refine(jJ _ _ _ _ _ _ p n l k j row _ (f5.out _ Hb.out) (H.out.ac2 Hb.out.below) (HL.out.ac2 Hb.out.below) hn fU.out jP.out iI ch.out yY).mono ?_;rw[cB.out];rintro e w3 ⟨rfl,aG⟩)
       go_roundw
       case rel=>exact⟨j+1,by omega,by go_num,iW Of.out cB.out,Hb.out.trans aG⟩
       case measure=>simp[intOf];omega
     ·obtain rfl:j=row.length:=by omega
      go_wp2;go_roundw
      case rel=>exact⟨k+1,by omega,by go_num,iW eV.out (by rw[RU.out,Co.out,Of.out];rfl),hb⟩
      case measure=>simp[intOf];omega
  ·obtain rfl:k=l.length:=by omega
   go_wp2;go_ret;exact⟨dn (by rw[RT.out,eV.out]),aa.after bQ.out hb⟩
theorem tF (pa pb ve vi vn vl:Value) (p:az) (n:aw) (l:List (List Int)) (w:World) (hp:di w pa pb p) (h:aU w ve vi vn n) (hl:a_ w vl l) (hn:aW n=true) (eJ:eC n.ends l) (ct:dR p.ac3) (iI:p.ac3.length<=1048576) (nD:∀(v:Nat) (row:List Int),l[v]?=some row->row.length<=1000000):
  Calls Tryz.prog 88 #[.agg #[.int .i64 p.labels,.int .i64 p.degree,pa,pb],.agg #[ve,vi,vn],vl] w fun e w'=>e=.returned (.bool (dS p n.ends l))/\Below w.heap.size w w':=by
 obtain⟨w0,ar⟩:∃w0,w0=((w).alloc (.cells #[.int .i64 p.labels,.int .i64 p.degree,pa,pb] 26)).alloc (.cells #[ve,vi,vn] 30):=⟨_,rfl⟩
 have bG:Below w.heap.size w w0:=by rw[ar];exact(((Below.refl _ _).alloc (by simp <;> omega) _).alloc (by simp <;> omega) _)
 have H:=zh (h.ac2 bG);obtain⟨h1,h2,h3⟩:=h.ac2 bG;obtain⟨A,c,rfl,f_,hm,hA⟩:=h1;obtain⟨A2,c2,rfl,_,fq,_⟩:=h2;obtain⟨A3,c3,rfl,_,fF,_⟩:=h3;unfold maxLen at hm fq fF;have cZ:=hp.ac2 bG;have HP:=zh cZ;obtain⟨P0,eP,rfl,ji,dX,bZ⟩:=id cZ.1;unfold maxLen at dX;have jj:=zh bZ;clear bZ;obtain⟨P1,eB,rfl,jk,dY,b_⟩:=id cZ.2;unfold maxLen at dY;have jl:=zh b_;clear b_;clear cZ hp
 have gP:∀W,aa w0 W->W.cell? ⟨w.heap.size,0,none⟩=some (.int .i64 p.labels):=ab (by rw[ar];simp)
 have ig:∀W,aa w0 W->W.cell? ⟨w.heap.size,1,none⟩=some (.int .i64 p.degree):=ab (by rw[ar];simp)
 have ii:∀W,aa w0 W->W.cell? ⟨w.heap.size,2,none⟩=some (.slice P0 p.nodes.length eP):=ab (by rw[ar];simp)
 have mL:∀W,aa w0 W->W.cell? ⟨w.heap.size,3,none⟩=some (.slice P1 p.ac3.length eB):=ab (by rw[ar];simp)
 have rJ:∀W,aa w0 W->W.cell? ⟨w.heap.size+1,0,none⟩=some (.slice A n.ends.length c):=ab (by rw[ar];simp)
 have tD:∀W,aa w0 W->W.cell? ⟨w.heap.size+1,1,none⟩=some (.slice A2 n.ids.length c2):=ab (by rw[ar];simp)
 have tE:∀W,aa w0 W->W.cell? ⟨w.heap.size+1,2,none⟩=some (.slice A3 n.ac1.length c3):=ab (by rw[ar];simp)
 have bQ:=zh bG;have cS:=zh ar;have HA:=zh hA;clear hA h;clear bG ar;have HL:=zh (hl.ac2 bQ.out);obtain⟨AL,cL,rfl,Qn,yi,-⟩:=hl;unfold maxLen at yi;have f5:=zh (show ∀X,aa w0 X->di X (.slice P0 p.nodes.length eP) (.slice P1 p.ac3.length eB) p from fun X hX=>HP.out.ac2 hX)
 have fU:=zh eJ;have jP:=zh ct;have Cn:=zh nD;clear eJ ct nD;have RT:Hid (dS p n.ends l=(List.range l.length).all (g_ p n.ends l)):=rfl
 go_enter Tryz.func88,Tryz.ntmps88
 go_upto_region 1 with(fail);rw[<- cS.out];have bu:aa w0 w0:=ad _;go_wp2
 go_loopw [12] (fun i wr=>∃k:Nat,k<=l.length/\i=.int .i64 k/\(List.range k).all (g_ p n.ends l)=true/\aa w0 wr) (fun i _=>l.length-(intOf i).toNat)
 case atStart=>exact⟨0,Nat.zero_le _,rfl,rfl,bu⟩
 case round=>
  obtain⟨k,hk,rfl,bH,hb⟩:=hrel;have eV:=zh bH;have Hb:=zh hb;clear bH bu
  by_cases aH:k<l.length
  ·obtain⟨row,b,off,A1,z1,hx,rfl,dG,dP,eO,j6⟩:=dT (HL.out.ac2 hb.below) aH;have ch:=zh hx;have Bq:=zh j6;have mW:=Cn.out k row hx;have q1:=ab dG
   have RU:Hid (g_ p n.ends l k=(dL p row&&(List.range row.length).all fun i=>fc p n.ends l ((k:Int),(i:Int)))):=by show _=_;unfold g_;rw[ak hx]
   clear hx j6 dG;cases kV:dL p row
   ·have Co:=zh kV
    have me:Hid (dS p n.ends l=false):=by show _=_;rw[RT.out];exact gH aH (by rw[RU.out,kV];rfl)
    clear kV;have hq:=q1 _ (ad _)
    go_wp2_with (go_at_call 89;refine(mN _ _ _ p row _ (f5.out _ Hb.out) Bq.out mW).mono ?_;rw[Co.out];rintro e w2 ⟨rfl,bJ⟩)
    go_ret;exact⟨aB me.out,aa.after bQ.out (Hb.out.trans bJ)⟩
   ·have Co:=zh kV;have hq:=q1 _ (ad _);clear kV
    go_upto_region 6 with(go_at_call 89;refine(mN _ _ _ p row _ (f5.out _ Hb.out) Bq.out mW).mono ?_;rw[Co.out];rintro e w2 ⟨rfl,bJ⟩)
    have dZ:aa w0 w2:=Hb.out.trans bJ;have q2:=aj q1 bJ;have lX:=q2 _ (ad _);clear bJ hq q1 hb;go_wp2
    go_loopw [23] (fun i wr=>∃j:Nat,j<=row.length/\i=.int .i64 j/\((List.range j).all fun i=>fc p n.ends l ((k:Int),(i:Int)))=true/\aa w0 wr) (fun i _=>row.length-(intOf i).toNat)
    case atStart=>exact⟨0,Nat.zero_le _,rfl,rfl,dZ⟩
    case round=>
     obtain⟨j,hj,rfl,Oe,hb⟩:=hrel;have Of:=zh Oe;have Hb:=zh hb;clear Oe dZ lX
     by_cases yY:j<row.length
     ·cases da:fc p n.ends l ((k:Int),(j:Int))
      ·have cB:=zh da
       have me:Hid (dS p n.ends l=false):=by show _=_;rw[RT.out];exact gH aH (by rw[RU.out,gH yY da,Bool.and_false])
       clear da
       go_wp2_with (go_at_call 90;refine(mT _ _ _ _ _ _ p n l k j row _ (f5.out _ Hb.out) (H.out.ac2 Hb.out.below) (HL.out.ac2 Hb.out.below) hn fU.out jP.out iI ch.out yY).mono ?_;rw[cB.out];rintro e w3 ⟨rfl,aG⟩)
       go_ret;exact⟨aB me.out,aa.after bQ.out (Hb.out.trans aG)⟩
      ·have cB:=zh da;clear da
       go_wp2_with (go_at_call 90;refine(mT _ _ _ _ _ _ p n l k j row _ (f5.out _ Hb.out) (H.out.ac2 Hb.out.below) (HL.out.ac2 Hb.out.below) hn fU.out jP.out iI ch.out yY).mono ?_;rw[cB.out];rintro e w3 ⟨rfl,aG⟩)
       go_roundw
       case rel=>exact⟨j+1,by omega,by go_num,iW Of.out cB.out,Hb.out.trans aG⟩
       case measure=>simp[intOf];omega
     ·obtain rfl:j=row.length:=by omega
      go_wp2;go_roundw
      case rel=>exact⟨k+1,by omega,by go_num,iW eV.out (by rw[RU.out,Co.out,Of.out];rfl),hb⟩
      case measure=>simp[intOf];omega
  ·obtain rfl:k=l.length:=by omega
   go_wp2;go_ret;exact⟨dn (by rw[RT.out,eV.out]),aa.after bQ.out hb⟩
def eQ (x:Int) (N j:Nat):List Value:=List.replicate j (.int .i64 x)++List.replicate (N-j) (.int .i64 0)
theorem vZ {x:Int} {N j:Nat} (h:j<=N):(eQ x N j).length=N:=by simp[eQ];omega
theorem qh {x:Int} {N j m:Nat} (h:j+m<=N):splice (eQ x N j) j (List.replicate m (.int .i64 x))=eQ x N (j+m):=by
 unfold splice eQ
 rw[List.take_append_of_le_length (by simp),List.take_replicate,Nat.min_self,List.length_replicate,List.drop_append,List.drop_replicate,List.length_replicate,List.drop_replicate,show j-(j+m)=0 by omega,show N-j-(j+m-j)=N-(j+m)by omega,List.replicate_zero,List.nil_append,<- List.append_assoc,List.replicate_append_replicate]
theorem F8 {w:World} {base g N:Nat} {x:Int} (h:w.heap[g]?=some (.cells (eQ x N N).toArray 3 (0,0))) (hb:base<=g) (hN:N<=1000000):Own w base (.slice (some ⟨g,0,none⟩) N N) (List.replicate N x):=by
 unfold Own
 refine⟨by simp,.inr ⟨g,N,_,by simp,hb,h,by simp,by unfold maxLen;omega,by simp[eQ],?_⟩⟩
 simp[eQ]
theorem Cq {w:World} {g N j:Nat} {x:Int} (h:w.heap[g]?=some (.cells (eQ x N j).toArray 3 (0,0))) {i:Nat} (hi:i<j):w.cell? ⟨g,i,none⟩=some (.int .i64 x):=by
 have:(eQ x N j)[i]?=some (.int .i64 x):=by
  unfold eQ;rw[List.getElem?_append_left (by simpa using hi)];simp[hi]
 simp[World.cell?,h,this]
theorem Og {w:World} {b:Nat} {x:Int} (h:w.cell? ⟨b,0,none⟩=some (.int .i64 x)) {j:Nat} {v:Value} (hj:(List.replicate 1 (Value.int .i64 x))[j]?=some v):w.cell? ((⟨b,0,none⟩:Addr).add j)=some v:=by
 have h1:=al hj;simp at h1
 subst h1;simp at hj
 subst hj;rw[Go.Addr.add_lit];exact h
theorem Kf {w:World} {g N j m:Nat} {x:Int} (h:w.heap[g]?=some (.cells (eQ x N j).toArray 3 (0,0))) (hm:m<=j) {i:Nat} {v:Value} (hi:(List.replicate m (Value.int .i64 x))[i]?=some v):w.cell? ((⟨g,0,none⟩:Addr).add i)=some v:=by
 have h1:=al hi;rw[List.length_replicate]at h1;rw[List.getElem?_replicate,if_pos h1]at hi;rw[<- Option.some.inj hi,Go.Addr.add_lit,Nat.zero_add];exact Cq h (by omega)
theorem Cs (b c:Nat) (x:Int) (N:Nat) (w:World) (hN:1<=N) (Iv:N<=1000000) (hc:w.cell? ⟨b,0,none⟩=some (.int .i64 x)):
  Calls Tryz.prog 97 #[.slice (some ⟨b,0,none⟩) 1 c,.int .i64 N] w fun e w'=>∃u,e=.returned u/\Own w' w.heap.size u (List.replicate N x)/\Below w.heap.size w w':=by
 have e1:IntKind.u64.wrap (N:Int)=N:=IntWalk.u64_in _ (by omega);have hm:=Tryz.bits_Mul 1 N (by omega) (by omega) w;rw[show(1*N/18446744073709551616:Nat)=0 by omega,show(1*N%18446744073709551616:Nat)=N by omega]at hm
 have Hm:=zh hm;have e2:IntKind.i64.wrap (N:Int)=N:=aE _ (by omega) (by omega);have m2:=nZ N Iv;have Hc:=zh hc;have xU:¬((N:Int)<0):=by omega
 have VW:¬(9223372036854775807<(N:Int)):=by omega
 clear hm hc
 go_enter Tryz.func97,Tryz.ntmps97
 go_wp2_with fail;refine Hm.out.mono ?_;rintro e w1 ⟨rfl,rfl⟩
 have HG2:Hid ((w1.alloc (.cells (Array.replicate N (Value.int .i64 0)) 3)).heap[w1.heap.size]?=some (.cells (eQ x N 0).toArray 3 (0,0))):=by
  show(w1.heap.push _)[w1.heap.size]?=_
  rw[Array.getElem?_push_size];simp[eQ]
 go_wp2_with (refine wpList_copy_splice rfl _ _ 28 28 rfl 3 Tryz.underlying28 (by kernel_rfl) (some ⟨w1.heap.size,0,none⟩) (some ⟨b,0,none⟩) N N 1 c rfl rfl w1.heap.size 0 (eQ x N 0) 3 HG2.out (List.replicate 1 (.int .i64 x)) (by rw[List.length_replicate];exact(Nat.min_eq_left hN).symm) (fun _=>⟨rfl,_,rfl,fun j v hj=>Og (bc (ao _ _) Hc.out) hj⟩) (by rw[vZ (Nat.zero_le _),List.length_replicate];omega) (by simp[Value.oneCell']) w1.heap.size w1 (ao _ _) (Nat.le_refl _) ?_;intro w3 nB aG)
 obtain⟨g,hg⟩:∃g,g=w1.heap.size:=⟨_,rfl⟩
 have Hg:=zh hg;rw[<- hg]at nB ⊢;clear hg
 have HG3:Hid (w3.heap[g]?=some (.cells (eQ x N 1).toArray 3 (0,0))):=by
  have:=nB.out
  rw[show List.replicate 1 (Value.int .i64 x)=List.replicate 1 (.int .i64 x)from rfl,qh (by omega)]at this;exact this
 have xV:=zh aG;clear nB aG;go_wp2
 go_loopw [8] (fun nv wr=>∃j:Nat,1<=j/\j<=N/\nv=.int .i64 j/\wr.heap[g]?=some (.cells (eQ x N j).toArray 3 (0,0))/\Below w1.heap.size w1 wr) (fun nv _=>N-(intOf nv).toNat)
 case atStart=>exact⟨1,Nat.le_refl _,hN,rfl,HG3.out,xV.out⟩
 case round=>
  obtain⟨j,tB,hj,rfl,xO,hb⟩:=hrel;have HG:=zh xO;have HB:=zh hb;clear xO hb
  by_cases aH:j<N
  ·obtain⟨m,hm⟩:∃m,m=min j (N-j):=⟨_,rfl⟩
   have vN:1<=m:=by omega
   have fq:j+m<=N:=by omega
   have hmj:m<=j:=by omega
   have hNj:¬N=j:=by omega
   have Hmm:=zh hm;clear hm;have m3:IntKind.i64.wrap ((j:Int)+m)=(j:Int)+m:=aE _ (by omega) (by omega);have bu:aa w1 wr:=HB.out;go_upto_region 9 with(fail);refine el (w0:=w1) 9 [false,false,false,false,false,false,false,true,true] (by kernel_rfl) (by kernel_rfl) (bu) ?_;simp only[ek,dD,zT]
   iterate 7 (apply ei rfl;(intro W hW;go_simp;with_reducible rfl);simp only[zA])
   obtain⟨W,cA⟩:∃W,W=World.drew wr:=⟨_,rfl⟩
   rw[<- cA]
   have hW:aa w1 W:=by rw[cA];exact ag (bu)
   refine c_ (fun Q' HQ=>?_)
   (refine wpList_copy_splice rfl _ _ 28 28 rfl 3 Tryz.underlying28 (by kernel_rfl) (some ⟨g,j,none⟩) (some ⟨g,0,none⟩) (N-j) (N-j) j N (by go_simp) (by go_simp) g j (eQ x N j) 3 (by rw[cA];exact HG.out) (List.replicate m (.int .i64 x)) (by rw[List.length_replicate];exact Hmm.out) (fun _=>⟨rfl,_,rfl,fun i v hi=>Kf (by rw[cA];exact HG.out) hmj hi⟩) (by rw[vZ hj];simpa using fq) (by simp[Value.oneCell']) w1.heap.size w1 hW (by rw[Hg.out];exact Nat.le_refl _) ?_);intro w4 U9 qy;refine HQ _ _ qy ?_;replace hW:aa w1 w4:=qy;simp only[List.length_replicate,goInt]
   (try simp only[zA])
   refine gF (v:=?_) rfl ?_ hW ?_;rotate_left;(go_simp;with_reducible rfl)
   simp only[zA];simp only[bj]
   have HG4:Hid (w4.heap[g]?=some (.cells (eQ x N (j+m)).toArray 3 (0,0))):=by
    have:=U9.out
    rw[qh fq]at this;exact this
   have Eo:=zh hW;clear U9 qy hW cA bu;go_wp2;go_roundw
   case rel=>exact⟨j+m,by omega,fq,by go_num,HG4.out,Eo.out⟩
   case measure=>simp[intOf];omega
  ·obtain rfl:j=N:=by omega
   go_wp2;go_ret
   exact⟨_,rfl,F8 HG.out (by rw[Hg.out];exact Nat.le_refl _) Iv,HB.out⟩
theorem bg.snoc {β:Type} {R:World->Nat->Value->β->List Nat->Prop} {e:TypeId} (L:ej R) {w w':World} {base g cap:Nat} {v u:Value} {xs:List β} {x:β} {S T:List Nat} (h:bg e R w base v xs S) (hu:R w base u x T) (hd:∀j∈T,j∉S)
  (vs:List Value) (Ss:List (List Nat)) (h1:w.ownsRow base e 1 v xs.length vs) (h2:Ss.length=xs.length) (h3:∀(k:Nat) u x T,vs[k]?=some u->xs[k]?=some x->Ss[k]?=some T->R w base u x T) (h4:S=v.ownBlock.toList++Ss.flatten) (h5:S.Nodup)
  (q1:w'.ownsRow base e 1 (.slice (some ⟨g,0,none⟩) (xs.length+1) cap) (xs.length+1) (vs++[u])) (q2:w.grownBy w' v.ownBlock) (q3:v.ownBlock=some g\/g=w.heap.size):
  ∃S',bg e R w' base (.slice (some ⟨g,0,none⟩) (xs.length+1) cap) (xs++[x]) S'/\(∀j∈S',j∈S\/j∈T\/j=w.heap.size):=by
 have hS:=(ep e L).range h;have hTr:=L.range hu;have lW:vs.length=xs.length:=by simpa using h1.1
 have rm:=h5;rw[h4,List.nodup_append]at rm
 have dH:∀j∈Ss.flatten,j∈S:=fun j hj=>by rw[h4];exact List.mem_append_right _ hj
 have ey:=aR.ac9 q2;have Wi:∀j∈Ss.flatten,j∉v.ownBlock.toList:=fun j hj hv=>rm.2.2 j hv j hj rfl
 have Wj:∀j∈T,j∉v.ownBlock.toList:=fun j hj hv=>hd j hj (by rw[h4];exact List.mem_append_left _ hv)
 have hg:g∉Ss.flatten:=fun hg=>by
  rcases q3 with q3 | q3
  ·exact Wi g hg (by rw[q3];simp)
  ·have:=(hS g (dH g hg)).2;omega
 have xQ:g∉T:=fun hg=>by
  rcases q3 with q3 | q3
  ·exact Wj g hg (by rw[q3];simp)
  ·have:=(hTr g hg).2;omega
 refine⟨[g]++(Ss++[T]).flatten,⟨vs++[u],Ss++[T],?_,by simp[h2],?_,by simp[Value.ownBlock],?_⟩,?_⟩
 ·rw[List.length_append];exact q1
 ·intro k u' x' T' yQ Bm sH;rcases Nat.lt_or_ge k xs.length with hk | hk
  ·rw[List.getElem?_append_left (by omega)]at yQ Bm sH;exact L.only (h3 k u' x' T' yQ Bm sH) ey (fun j hj=>Wi j (List.mem_flatten.2 ⟨T',List.mem_of_getElem? sH,hj⟩))
  ·have pM:k=xs.length:=by
    have:=al Bm
    simp at this;omega
   subst pM;rw[List.getElem?_append_right (Nat.le_refl _),Nat.sub_self]at Bm;rw[<- lW,List.getElem?_append_right (Nat.le_refl _),Nat.sub_self]at yQ;rw[<- h2,List.getElem?_append_right (Nat.le_refl _),Nat.sub_self]at sH;simp at yQ Bm sH
   subst yQ Bm sH;exact L.only hu ey Wj
 ·rw[List.flatten_append,List.nodup_append];refine⟨by simp,?_,?_⟩
  ·rw[List.nodup_append];refine⟨rm.2.1,by simpa using L.nodup hu,?_⟩
   intro a ha b hb e;simp at hb
   subst e;exact hd a hb (dH a ha)
  ·intro a ha b hb e;simp at ha
   subst e ha;rcases List.mem_append.1 hb with hb | hb
   ·exact hg hb
   ·simp at hb;exact xQ hb
 ·intro j hj;rw[List.flatten_append]at hj;rcases List.mem_append.1 hj with hj | hj
  ·simp at hj
   subst hj;rcases q3 with q3 | q3
   ·left;rw[h4,q3];simp
   ·exact .inr (.inr q3)
  ·rcases List.mem_append.1 hj with hj | hj
   ·exact .inl (dH j hj)
   ·simp at hj;exact .inr (.inl hj)
theorem z6:(Tryz.prog.info? 28).map (fun i=>(i.zero,i.size,i.bytes))=some (some (.slice none 0 0),1,24):=by kernel_rfl
theorem mj {w:World} {ops:Array Oper} {rest:List Oper} {o:Oper} {a:Act} {Q:Exit->Act->World->Prop} (iz:o.guard=none) (s x:Operand)
  (ho:o.op=.call { callee:=.builtin .append,args:=#[s,x],argTypes:=#[24,24] }) {base:Nat} {v u:Value} {sK:List (List Int)} {S:List Nat} {xs:List Int} (hs:a.eval s=v) (h:bz w base v sK S)
  (b:Nat) (hx:a.eval x=.slice (some ⟨b,0,none⟩) 1 1) (hc:w.cell? ⟨b,0,none⟩=some u) (hu:Own w base u xs) (hd:∀j,u.ownBlock=some j->j∉S) (hl:sK.length+1<=4000000) (uN:base<=w.heap.size)
  (k:∀g cap w' S',bz w' base (.slice (some ⟨g,0,none⟩) (sK.length+1) cap) (sK++[xs]) S'->Below base w w'->wpList Tryz.prog ops Q rest (a.put o.dst (.slice (some ⟨g,0,none⟩) (sK.length+1) cap)) w'):wpList Tryz.prog ops Q (o::rest) a w:=by
 obtain⟨i0,hi,eu,dP,eO⟩:=info_parts z6;have hvr:=aI.range h;have Kb:=h;obtain⟨vs,Ss,r1,r2,r3,r4,r5⟩:=h;obtain⟨A,m,c,rfl⟩:=er.one (S:=u.ownBlock.toList) ⟨hu,rfl⟩
 refine wpList_append_lies w iz s x 24 ho base 28 i0 _ 1 24 Tryz.underlying24 hi eu dP eO rfl (by decide) v sK.length vs hs r1 ⟨b,0,none⟩ 1 1 [.slice A m c] hx rfl
  (by intro j u hj;match j,hj with | 0,hj=>(simp at hj;subst hj;simpa[Addr.add]using hc) | j+1,hj=>simp at hj) (by simp[Value.oneCell']) (by omega) (by unfold maxLen;omega) (by omega) uN w.heap.size rfl ?_
 intro g cap w' q1 q2 q3 q4;obtain⟨S',o1,-⟩:=bg.snoc er Kb (T:=(Value.slice A m c).ownBlock.toList) ⟨hu,rfl⟩ (fun j hj=>hd j (by simpa using hj)) vs Ss r1 r2 r3 r4 r5 q1 q2 q3
 exact k g cap w' S' o1 (Below.grown (Below.refl base w |>.mono (Nat.le_refl _)) q2 uN (fun q hq=>(hvr q (by rw[r4,hq];simp)).1))
end Go.Proofs.YtnioemnkfojmkaaGreat
