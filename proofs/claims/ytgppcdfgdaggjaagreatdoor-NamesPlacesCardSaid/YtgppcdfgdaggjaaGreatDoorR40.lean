/- Texts laid together. No condition but what each law says. -/
import Derived.Test.YtgppcdfgdaggjaaGreatDoorR49
import Derived.Test.YtgppcdfgdaggjaaGreatDoorR39
import Derived.Test.YtgppcdfgdaggjaaGreatDoorR38
set_option maxHeartbeats 8000000
set_option maxRecDepth 100000
namespace Go.Proofs.YtgppcdfgdaggjaaGreatDoor
open Go.RowKit Go.Maps
variable {g i j k n:Nat}{e:Ex}{s t:ByteArray}{a:Option Addr}{w w0:World}
mutual
def St.pl:St->St
 | .mk k _ _ s t x y b e id sl ot lo=> .mk k 0 0 s t x y (St.pls b) (St.pls e) id sl ot lo
def St.pls:List St->List St
 | []=> []
 |s::r=>s.pl::St.pls r
end
def De.pl(d:De):De:={d with line:=0,col:=0,body:=St.pls d.body}
def Th.pl(t:Th):Th:={t with body:=St.pls t.body}
def Pg.pl(P:Pg):Pg:={P with threads:=P.threads.map Th.pl}
def plX{α β:Type}(f:α->β):Except Flw α->Except Flw β
 | .error e=> .error ((0,0),e.2)
 | .ok x=> .ok (f x)
theorem fnd_pl(L:List Nm)(s:ByteArray)(k:Nat)(b:Bool)(p:Int×Int):fnd L s k b (0,0)=plX id (fnd L s k b p):=by
 unfold fnd;split
 .rfl
 .split<;>rfl
mutual
theorem fEx_pl (L:List Nm) (p:Int×Int):∀e:Ex,fEx L (0,0) e=plX id (fEx L p e)
 | .mk k n s sl lo o args=>by
  unfold fEx
  rw[fExs_pl L p args,fnd_pl L s 1 true p,fnd_pl L s 2 false p]
  generalize fnd L s 1 true p=A
  generalize fnd L s 2 false p=B
  generalize fExs L p args=C
  by_cases h2:k=2
  .simp only[h2,if_true]
   rcases A with a|a<;>rcases C with c|c<;>rfl
  .by_cases h3:k=3
   .simp only[h3,if_true]
    rw[if_neg (by decide),if_neg (by decide)]
    rcases B with a|a<;>rcases C with c|c<;>rfl
   .simp only[if_neg h2,if_neg h3]
    rcases C with c|c<;>rfl
theorem fExs_pl (L:List Nm) (p:Int×Int):∀r:List Ex,fExs L (0,0) r=plX id (fExs L p r)
 | []=>by
  unfold fExs
  rfl
 |x::r=>by
  unfold fExs
  rw[fEx_pl L p x,fExs_pl L p r]
  generalize fEx L p x=A
  generalize fExs L p r=C
  rcases A with a|a<;>rcases C with c|c<;>rfl
end
theorem stHead_pl(L:List Nm)(loc:Nat)(p:Int×Int)(k:Int)(s t:ByteArray)(sl ot:Int)(lo:Bool):stHead L loc (0,0) k s t sl ot lo=plX id (stHead L loc p k s t sl ot lo):=by
 unfold stHead;split
 .repeat' split
  all_goals rfl
 split
 .rfl
 rename_i q b _;rw[fnd_pl L s q b p];generalize fnd L s q b p=A;rcases A with a|a
 .rfl
 dsimp only[plX,id];split
 .rfl
 rename_i q2 b2 _;rw[fnd_pl L t q2 b2 p];generalize fnd L t q2 b2 p=B;rcases B with b|b<;>rfl
mutual
theorem fSt_pl (L:List Nm) (loc n mo:Nat):∀s:St,fSt L loc n mo s.pl=plX (fun r=> (r.1.pl,r.2)) (fSt L loc n mo s)
 | .mk k l c s t x y body els id' sl ot lo=>by
  unfold St.pl fSt
  rw[fEx_pl L (l,c) y,fEx_pl L (l,c) x,stHead_pl L loc (l,c) k s t sl ot lo]
  by_cases h5:n=512
  .rw[if_pos h5,if_pos h5]
   rfl
  rw[if_neg h5,if_neg h5]
  generalize fEx L (l,c) y=A
  rcases A with a|a
  .rfl
  dsimp only[plX,id]
  generalize fEx L (l,c) x=B
  rcases B with b|b
  .rfl
  dsimp only
  generalize stHead L loc (l,c) k s t sl ot lo=C
  rcases C with c|⟨c1,c2,c3⟩
  .rfl
  dsimp only
  rw[fSts_pl L loc (n+1) mo body]
  generalize fSts L loc (n+1) mo body=D
  rcases D with d|⟨d1,d2,d3⟩
  .rfl
  dsimp only[plX]
  rw[fSts_pl L loc d2 d3 els]
  generalize fSts L loc d2 d3 els=F
  rcases F with f|⟨f1,f2,f3⟩
  .rfl
  dsimp only[plX]
  try rw[St.pl]
theorem fSts_pl (L:List Nm) (loc n mo:Nat):∀r:List St,fSts L loc n mo (St.pls r)=plX (fun r=> (St.pls r.1,r.2)) (fSts L loc n mo r)
 | []=>by
  unfold St.pls fSts
  dsimp only[plX]
  try rw[St.pls]
 | .mk k l c nm t x y body els id' sl ot lo::r=>by
  have h1:=fSt_pl L loc n mo (.mk k l c nm t x y body els id' sl ot lo)
  rw[St.pl]at h1
  rw[St.pls,St.pl]
  unfold fSts
  rw[h1]
  generalize fSt L loc n mo (.mk k l c nm t x y body els id' sl ot lo)=A
  clear h1
  rcases A with a|⟨s',n2,mo2⟩
  .rfl
  dsimp only[plX]
  by_cases h1:k=1
  .rw[if_pos h1,if_pos h1,fSts_pl _ _ _ _ r]
   generalize fSts (L++[Nm.mk nm 0 loc]) (loc+1) n2 (max mo2 (loc+1)) r=B
   rcases B with b|⟨b1,b2,b3⟩
   .rfl
   .dsimp only[plX]
    rw[St.pls]
  .rw[if_neg h1,if_neg h1,fSts_pl _ _ _ _ r]
   generalize fSts L loc n2 mo2 r=B
   rcases B with b|⟨b1,b2,b3⟩
   .rfl
   .dsimp only[plX]
    rw[St.pls]
end
theorem dclI_pl(P:Pg)(c:Int)(d:De):dclI P c d.pl=plX id (dclI P c d):=by
 unfold dclI De.pl;dsimp only;repeat' split
 all_goals rfl
theorem dcl_pl(P:Pg)(L:List Nm)(c:Int)(i:Nat)(d:De):dcl P L c i d.pl=plX id (dcl P L c i d):=by
 rw[dcl_eq,dcl_eq,dclI_pl,show d.pl.name=d.name from rfl,show d.pl.kind=d.kind from rfl,show d.pl.line=0 from rfl,show d.pl.col=0 from rfl];generalize dclI P c d=I;by_cases h:(lkN L d.name).isSome
 .rw[if_pos h,if_pos h];rfl
 rw[if_neg h,if_neg h];rcases I with e|⟨P2,sl,c2⟩
 .rfl
 .dsimp only[plX,id];split<;>rfl
theorem dcls_pl:∀ (l:List De) (P:Pg) (L:List Nm) (c:Int) (i:Nat),dcls P L c i (l.map De.pl)=plX id (dcls P L c i l)
 | [],P,L,c,i=>by
  rw[List.map_nil]
  unfold dcls
  rfl
 |d::r,P,L,c,i=>by
  rw[List.map_cons]
  unfold dcls
  rw[dcl_pl]
  generalize dcl P L c i d=A
  rcases A with a|⟨a1,a2,a3⟩
  .rfl
  .exact dcls_pl r a1 a2 a3 (i+1)
def plB(b:List St×Nat):List St×Nat:=(St.pls b.1,b.2)
theorem bods_pl(L:List Nm):∀ (l:List De) (n:Nat),bods L n (l.map De.pl)=plX (fun r=> (r.1.map plB,r.2)) (bods L n l)
 | [],n=>by
  rw[List.map_nil]
  unfold bods
  rfl
 |d::r,n=>by
  rw[List.map_cons]
  unfold bods
  have e1:d.pl.kind=d.kind:=z
  have e2:d.pl.body=St.pls d.body:=z
  rw[e1,e2,bods_pl L r n,fSts_pl L 0 n 0 d.body]
  by_cases h6:d.kind=6
  .rw[if_pos h6,if_pos h6]
   generalize fSts L 0 n 0 d.body=A
   rcases A with a|⟨a1,a2,a3⟩
   .rfl
   dsimp only[plX]
   rw[bods_pl L r a2]
   generalize bods L a2 r=B
   rcases B with b|⟨b1,b2⟩<;>rfl
  .rw[if_neg h6,if_neg h6]
theorem Th.pl_nil{t:Th}(h:t.body=[]):t.pl=t:=by obtain⟨n,l,b⟩:=t;cases h;rfl
theorem putTh_pl:∀ (T:List Th) (bs:List (List St×Nat)),(∀t∈T,t.body=[])->putTh T (bs.map plB)=(putTh T bs).map Th.pl
 | [],[],_=>rfl
 | [],b::q,_=>rfl
 |t::r,[],h=>by
  show t::r=(t::r).map Th.pl
  have e:=List.map_congr_left (f:=Th.pl) (g:=id) fun x hx=>Th.pl_nil (h x hx)
  rw[e,List.map_id]
 |t::r,(b,mo)::q,h=>by
  rw[List.map_cons]
  show putTh (t::r) ((St.pls b,mo)::q.map plB)=_
  rw[putTh,putTh,List.map_cons,putTh_pl r q fun x hx=>h x (by simp[hx])]
  rfl
theorem findR_pl(l:List De):findR (l.map De.pl)=((findR l).1.pl,(0,0),(findR l).2.2):=by
 unfold findR;rw[dcls_pl];cases hd:dcls zPg [] 0 0 l with
 |error e=>rfl
 |ok r=>
  obtain⟨P,L⟩:=r;dsimp only[plX,id];cases lkN L wMain with
  |none=>rfl
  |some x=>
   dsimp only;by_cases h6:x.kind≠6
   .rw[if_pos h6,if_pos h6];rfl
   rw[if_neg h6,if_neg h6,bods_pl];cases hb:bods L 0 l with
   |error e=>rfl
   |ok q=> obtain⟨bs,n⟩:=q;dsimp only[plX];obtain⟨g1,-⟩:=dcls_len l hd ⟨⟨by simp[zPg],by simp[zPg],by simp[zPg],by simp[zPg]⟩,⟨by simp[zPg],by simp[zPg],by simp[zPg],by simp[zPg],by simp[zPg]⟩,by simp[zPg]⟩ (by decide);rw[putTh_pl P.threads bs g1.b];rfl
theorem find_places{l l':List De}(h:l.map De.pl=l'.map De.pl):(findR l).2.2=(findR l').2.2/\(findR l).1.pl=(findR l').1.pl:=by have h1:=findR_pl l;rw[h,findR_pl l']at h1;simp only[Prod.mk.injEq]at h1;exact⟨h1.2.2.symm,h1.1.symm⟩
theorem pE_z(T:List Wd):∀f,(∀n i e j,pE T f n i=some (.ok (e,j))->exZn e=e)/\(∀n m l i e j,exZn l=l->pL T f n m l i=some (.ok (e,j))->exZn e=e)/\(∀i e j,pU T f i=some (.ok (e,j))->exZn e=e)/\(∀i e j,pP T f i=some (.ok (e,j))->exZn e=e):=by
 intro f;induction f with
 |zero=>exact⟨fun _ _ _ _ h=>by simp[pE]at h,fun _ _ _ _ _ _ _ h=>by simp[pL]at h,fun _ _ _ h=>by simp[pU]at h,fun _ _ _ h=>by simp[pP]at h⟩
 |succ f D=>
  obtain⟨E,L,U,P⟩:=D;refine⟨fun n i e j h=>?_,fun n m l i e j hl h=>?_,fun i e j h=>?_,fun i e j h=>?_⟩
  .rw[pE]at h;obtain⟨l,k,h,w⟩:=andI h;exact L _ _ _ _ _ _ (U _ _ _ w) h
  .rw[pL]at h;split at h
   .cases h;exact hl
   .obtain⟨x,k,h,w⟩:=andI h;refine L _ _ _ _ _ _ ?_ h;simp[exBin,exZn,exZs,hl,E _ _ _ _ w]
  .rw[pU]at h;split at h
   .obtain⟨x,k,h,w⟩:=andI h;cases h;simp[exNeg,exZn,exZs,U _ _ _ w]
   split at h
   .obtain⟨x,k,h,w⟩:=andI h;cases h;simp[exNot,exZn,exZs,U _ _ _ w]
   .exact P _ _ _ h
  .rw[pP]at h;split at h
   .obtain⟨x,k,h,w⟩:=andI h;obtain⟨_,_,h,-⟩:=andI h;cases h;exact E _ _ _ _ w
   split at h
   .cases h;simp[exNum,exZn,exZs]
   obtain⟨s,k,h,-⟩:=andI h;split at h
   .obtain⟨x,m,h,w⟩:=andI h;obtain⟨_,_,h,-⟩:=andI h;cases h;simp[exCell,exZn,exZs,E _ _ _ _ w]
   .cases h;simp[exName,exZn,exZs]
theorem pX_z{T:List Wd}(h:pX T i=some (.ok (e,j))):exZn e=e:=(pE_z T _).1 _ _ _ _ h
theorem zEx_n:exZn zEx=zEx:=by simp[zEx,exZn,exZs]
theorem mk_z{k:Int}{p:Int×Int}{x y:Ex}{b e:List St}(hx:exZn x=x)(hy:exZn y=y)(hb:St.cans b=St.pls b)(he:St.cans e=St.pls e):(mkSt k p s t x y b e).can=(mkSt k p s t x y b e).pl:=by unfold mkSt St.can St.pl;rw[hx,hy,hb,he]
theorem nil_z:St.cans []=St.pls []:=by simp[St.cans,St.pls]
theorem app_z:∀ {a:List St} {s:St},St.cans a=St.pls a->s.can=s.pl->St.cans (a++[s])=St.pls (a++[s])
 | [],s,_,h=>by simp[St.cans,St.pls,h]
 |x::r,s,ha,h=>by
  simp only[St.cans,St.pls,List.cons.injEq]at ha
  rw[List.cons_append,St.cans,St.pls,ha.1,app_z ha.2 h]
theorem pPlain_z{T:List Wd}{p:Int×Int}{s:St}(h:pPlain T p k i=some (.ok (s,j))):s.can=s.pl:=by
 unfold pPlain at h;split at h
 .obtain⟨_,_,h,-⟩:=andI h;cases h;exact mk_z zEx_n zEx_n nil_z nil_z
 split at h
 .obtain⟨_,_,h,w⟩:=andI h;obtain⟨_,_,h,-⟩:=andI h;cases h;exact mk_z (pX_z w) zEx_n nil_z nil_z
 obtain⟨_,_,h,-⟩:=andI h;split at h
 .obtain⟨_,_,h,-⟩:=andI h;obtain⟨_,_,h,w⟩:=andI h;obtain⟨_,_,h,-⟩:=andI h;cases h;exact mk_z (pX_z w) zEx_n nil_z nil_z
 split at h
 .obtain⟨_,_,h,-⟩:=andI h;obtain⟨_,_,h,-⟩:=andI h;cases h;exact mk_z zEx_n zEx_n nil_z nil_z
 split at h
 .obtain⟨_,_,h,w⟩:=andI h;obtain⟨_,_,h,-⟩:=andI h;cases h;exact mk_z (pX_z w) zEx_n nil_z nil_z
 .obtain⟨_,_,h,-⟩:=andI h;cases h;exact mk_z zEx_n zEx_n nil_z nil_z
theorem pAssign_z{T:List Wd}{p:Int×Int}{s:St}(h:pAssign T p i=some (.ok (s,j))):s.can=s.pl:=by
 unfold pAssign at h;obtain⟨_,_,h,-⟩:=andI h;split at h
 .obtain⟨_,_,h,w⟩:=andI h;obtain⟨_,_,h,-⟩:=andI h;obtain⟨_,_,h,-⟩:=andI h;obtain⟨_,_,h,w2⟩:=andI h;obtain⟨_,_,h,-⟩:=andI h;cases h;exact mk_z (pX_z w2) (pX_z w) nil_z nil_z
 .obtain⟨_,_,h,-⟩:=andI h;obtain⟨_,_,h,w⟩:=andI h;obtain⟨_,_,h,-⟩:=andI h;cases h;exact mk_z (pX_z w) zEx_n nil_z nil_z
theorem pS_z(T:List Wd):∀f,
  (∀i l j,pB T f i=some (.ok (l,j))->St.cans l=St.pls l)/\(∀acc i l j,St.cans acc=St.pls acc->pSs T f acc i=some (.ok (l,j))->St.cans l=St.pls l)/\(∀i s j,pS T f i=some (.ok (s,j))->St.can s=St.pl s):=by
 intro f;induction f with
 |zero=>exact⟨fun _ _ _ h=>by simp[pB]at h,fun _ _ _ _ _ h=>by simp[pSs]at h,fun _ _ _ h=>by simp[pS]at h⟩
 |succ f D=>
  obtain⟨g,A,G⟩:=D;refine⟨fun i l j h=>?_,fun acc i l j C h=>?_,fun i s j h=>?_⟩
  .rw[pB]at h;obtain⟨_,k,h,-⟩:=andI h;exact A _ _ _ _ nil_z h
  .rw[pSs]at h;split at h
   .cases h;exact C
   .obtain⟨s,k,h,F⟩:=andI h;exact A _ _ _ _ (app_z C (G _ _ _ F)) h
  .rw[pS]at h;split at h
   .exact pAssign_z h
   split at h
   .cases h
   split at h
   .obtain⟨x,k,h,wx⟩:=andI h;obtain⟨b,m,h,w⟩:=andI h;cases h;exact mk_z (pX_z wx) zEx_n (g _ _ _ w) nil_z
   split at h
   .obtain⟨x,k,h,wx⟩:=andI h;obtain⟨b,m,h,w⟩:=andI h;split at h
    .obtain⟨c,q,h,E⟩:=andI h;cases h;exact mk_z (pX_z wx) zEx_n (g _ _ _ w) (g _ _ _ E)
    .cases h;exact mk_z (pX_z wx) zEx_n (g _ _ _ w) nil_z
   .exact pPlain_z h
theorem pD_z{T:List Wd}{d:De}(h:pD T i=some (.ok (d,j))):d.can=d.pl:=by
 have key:∀ {k:Int} {p:Int×Int} {s:ByteArray} {n:Int} {b:List St},St.cans b=St.pls b->(mkDe k p s n b).can=(mkDe k p s n b).pl:=fun {k p s n b} hb=>by unfold mkDe De.can De.pl;simp only[hb]
 unfold pD at h;split at h
 .cases h
 obtain⟨s,w,h,-⟩:=andI h;split at h
 .obtain⟨_,m,h,-⟩:=andI h;split at h
  .obtain⟨n,_,h,-⟩:=andI h;obtain⟨_,_,h,-⟩:=andI h;cases h;exact key nil_z
  .obtain⟨n,_,h,-⟩:=andI h;obtain⟨_,_,h,-⟩:=andI h;cases h;exact key nil_z
 split at h
 .obtain⟨n,_,h,-⟩:=andI h;obtain⟨_,_,h,-⟩:=andI h;cases h;exact key nil_z
 split at h
 .obtain⟨b,q,h,g⟩:=andI h;cases h;exact key ((pS_z T _).1 _ _ _ g)
 .obtain⟨_,_,h,-⟩:=andI h;cases h;exact key nil_z
theorem pDs_z(T:List Wd):∀f acc i l j,(∀d∈acc,d.can=d.pl)->pDs T f acc i=some (.ok (l,j))->∀d∈l,De.can d=De.pl d:=by
 intro f;induction f with
 |zero=>intro acc i l j _ h;simp[pDs]at h
 |succ f C=>
  intro acc i l j w h;rw[pDs]at h;split at h
  .obtain⟨d,k,h,A⟩:=andI h;refine C _ _ _ _ ?_ h;intro e g;rcases List.mem_append.1 g with g|g
   .exact w e g
   .obtain rfl:e=d:=by simpa using g
    exact pD_z A
  .cases h;exact w
theorem parse_z(s:ByteArray):∀d∈ (parseR s).1,De.can d=De.pl d:=by
 unfold parseR;split
 .split
  .rename_i l j w;split
   .intro d hd;cases hd
   .exact fun d g=>pDs_z _ _ _ _ _ _ (fun d hd=>by cases hd) w d g
  .intro d hd;cases hd
  .intro d hd;cases hd
 .intro d hd;cases hd
theorem places_law(_h0:(parseR s).2.2=0)(hlen:(prT (parseR s).1).length<=65536):(textR fiR (bS (prT (parseR s).1))).2.2=(findR (parseR s).1).2.2/\(textR fiR (bS (prT (parseR s).1))).1.pl=(findR (parseR s).1).1.pl:=by
 obtain⟨l',h1,h2,h3,-⟩:=text_back (l:=(parseR s).1) (read_may s) hlen;have e2:l'.map De.pl=(parseR s).1.map De.pl:=by have a1:l'.map De.can=l'.map De.pl:=List.map_congr_left fun d hd=>parse_z (bS (prT (parseR s).1)) d (by rw[h1];exact hd);have a2:(parseR s).1.map De.can=(parseR s).1.map De.pl:=List.map_congr_left fun d hd=>parse_z s d hd;rw[<-a1,h2,a2]
 have h5:textR fiR (bS (prT (parseR s).1))=findR l':=by unfold textR fiR;rw[h1];simp[h3]
 rw[h5];exact find_places e2
section
variable {w0 w w':World} {q ok ok':Nat→Prop}
mutual
def BaL (w0:World) (q ok:Nat->Prop) (w:World):List Value->St->Prop
 |cs,.mk k l c s t x y body els id sl ot lo=>∃ (cx cy:List Value) (a a':Option Addr) (cap cap':Nat),
  cs= .int .i64 k:: .int .i64 l:: .int .i64 c:: .string s:: .string t::(cx++(cy++[.slice a body.length cap,.slice a' els.length cap',.int .i64 id,.int .i64 sl,.int .i64 ot,.bool lo]))/\
   ExL q w0 cx x/\ExL q w0 cy y/\Roomy body.length cap/\BasL w0 q ok w a 0 body/\Roomy els.length cap'/\BasL w0 q ok w a' 0 els
def BasL (w0:World) (q ok:Nat->Prop) (w:World):Option Addr->Nat->List St->Prop
 |_,_,[]=>True
 |a,i,s::r=> (∃ (b off:Nat) (cs:List Value),a=some ⟨b,off,none⟩/\ok b/\(∀ (t:Nat) (v:Value),cs[t]? =some v->w.cellF ⟨b,off+i*25+t,none⟩=some v)/\BaL w0 q ok w cs s)/\BasL w0 q ok w a (i+1) r
end
mutual
theorem BaL.keep (hk:∀ (b o:Nat) (v:Value),ok b->w.cellF ⟨b,o,none⟩=some v->w'.cellF ⟨b,o,none⟩=some v):∀ {cs:List Value} {s:St},BaL w0 q ok w cs s->BaL w0 q ok w' cs s
 |cs,.mk k l c s t x y body els id sl ot lo,h=>by
  unfold BaL at h ⊢
  obtain⟨cx,cy,a,a',cap,cap',h1,h2,h3,h4,h5,h6,h7⟩:=h
  exact⟨cx,cy,a,a',cap,cap',h1,h2,h3,h4,BasL.keep hk h5,h6,BasL.keep hk h7⟩
theorem BasL.keep (hk:∀ (b o:Nat) (v:Value),ok b->w.cellF ⟨b,o,none⟩=some v->w'.cellF ⟨b,o,none⟩=some v):∀ {a:Option Addr} {i:Nat} {l:List St},BasL w0 q ok w a i l->BasL w0 q ok w' a i l
 |_,_,[],_=>by unfold BasL;trivial
 |a,i,e::r,h=>by
  unfold BasL at h ⊢
  obtain⟨⟨b,off,cs,h1,h2,h3,h4⟩,h5⟩:=h
  exact⟨⟨b,off,cs,h1,h2,fun t v hv=>hk _ _ _ h2 (h3 t v hv),BaL.keep hk h4⟩,BasL.keep hk h5⟩
end
mutual
theorem BaL.weak (hk:∀b,ok b->ok' b):∀ {cs:List Value} {s:St},BaL w0 q ok w cs s->BaL w0 q ok' w cs s
 |cs,.mk k l c s t x y body els id sl ot lo,h=>by
  unfold BaL at h ⊢
  obtain⟨cx,cy,a,a',cap,cap',h1,h2,h3,h4,h5,h6,h7⟩:=h
  exact⟨cx,cy,a,a',cap,cap',h1,h2,h3,h4,BasL.weak hk h5,h6,BasL.weak hk h7⟩
theorem BasL.weak (hk:∀b,ok b->ok' b):∀ {a:Option Addr} {i:Nat} {l:List St},BasL w0 q ok w a i l->BasL w0 q ok' w a i l
 |_,_,[],_=>by unfold BasL;trivial
 |a,i,e::r,h=>by
  unfold BasL at h ⊢
  obtain⟨⟨b,off,cs,h1,h2,h3,h4⟩,h5⟩:=h
  exact⟨⟨b,off,cs,h1,hk _ h2,h3,BaL.weak hk h4⟩,BasL.weak hk h5⟩
end
theorem BaL.cells{cs:List Value}:∀ {s:St},BaL w0 q ok w cs s->cs.length=25/\∀v∈cs,v.oneCell'=true
 | .mk k l c s t x y b e i sl ot lo,h=>by
  unfold BaL at h
  obtain⟨K,H,a,J,cap,G,rfl,E,A,-⟩:=h
  obtain⟨F,j⟩:=E.cells
  obtain⟨C,D⟩:=A.cells
  refine⟨by simp[F,C],fun v g=>?_⟩
  simp only[List.mem_cons,List.mem_append,List.not_mem_nil,or_false]at g
  rcases g with rfl|rfl|rfl|rfl|rfl|g|g|rfl|rfl|rfl|rfl|rfl|rfl
  case inr.inr.inr.inr.inr.inl=>exact j v g
  case inr.inr.inr.inr.inr.inr.inl=>exact D v g
  all_goals rfl
mutual
theorem BaL.bound:∀ {cs:List Value} {s:St},BaL w0 q ok w cs s->BaL w0 q (fun c=>ok c/\c<w.1.size) w cs s
 |cs,.mk k l c s t x y body els id sl ot lo,h=>by
  unfold BaL at h ⊢
  obtain⟨cx,cy,a,a',cap,cap',h1,h2,h3,h4,h5,h6,h7⟩:=h
  exact⟨cx,cy,a,a',cap,cap',h1,h2,h3,h4,BasL.bound h5,h6,BasL.bound h7⟩
theorem BasL.bound:∀ {a:Option Addr} {i:Nat} {l:List St},BasL w0 q ok w a i l->BasL w0 q (fun c=>ok c/\c<w.1.size) w a i l
 |_,_,[],_=>by unfold BasL;trivial
 |a,i,e::r,h=>by
  unfold BasL at h ⊢
  obtain⟨⟨b,off,cs,h1,h2,h3,h4⟩,h5⟩:=h
  have hb:b<w.1.size:=by
   have hl:=h4.cells.1
   exact World.block_lt_of_cellF w (h3 0 _ (List.getElem?_eq_getElem (by omega)))
  exact⟨⟨b,off,cs,h1,⟨h2,hb⟩,h3,BaL.bound h4⟩,BasL.bound h5⟩
end
mutual
theorem BaL.st (hb:bL w0 w):∀ {cs:List Value} {s:St},BaL w0 q ok w cs s->StL (fun c=>q c∨ok c) w cs s
 |cs,.mk k l c s t x y body els id sl ot lo,h=>by
  unfold BaL at h
  unfold StL
  obtain⟨cx,cy,a,a',cap,cap',h1,h2,h3,h4,h5,h6,h7⟩:=h
  exact⟨cx,cy,a,a',cap,cap',h1,(h2.keep fun b o v _ hv=>below_cell hb b o v hv).weak fun _ h=> .inl h,(h3.keep fun b o v _ hv=>below_cell hb b o v hv).weak fun _ h=> .inl h,h4,BasL.st hb h5,h6,BasL.st hb h7⟩
theorem BasL.st (hb:bL w0 w):∀ {a:Option Addr} {i:Nat} {l:List St},BasL w0 q ok w a i l->StsL (fun c=>q c∨ok c) w a i l
 |_,_,[],_=>by unfold StsL;trivial
 |a,i,e::r,h=>by
  unfold BasL at h
  unfold StsL
  obtain⟨⟨b,off,cs,h1,h2,h3,h4⟩,h5⟩:=h
  exact⟨⟨b,off,cs,h1,.inr h2,h3,BaL.st hb h4⟩,BasL.st hb h5⟩
end
theorem BasL.mk:∀ {l:List St} {i:Nat},(∀j x,l[j]? =some x->∃ (b g:Nat) (cs:List Value),a=some ⟨b,g,none⟩/\ok b/\(∀ (t:Nat) (v:Value),cs[t]? =some v->w.cellF ⟨b,g+(i+j)*25+t,none⟩=some v)/\BaL w0 q ok w cs x)->BasL w0 q ok w a i l
 | [],_,_=>by unfold BasL;trivial
 |e::r,i,h=>by
  unfold BasL
  refine⟨h 0 e z,BasL.mk (l:=r) (i:=i+1) fun j x A=>?_⟩
  have:=h (j+1) x (by simpa using A)
  rw[show i+1+j=i+(j+1) by omega]
  exact this
end
def elB(w0:World)(q:Nat->Prop):El St where
 ty:=60
 sz:=25
 L:=BaL w0 q
 keep:=fun h g=>BaL.keep h g
 weak:=fun h g=>BaL.weak h g
 bound:=fun h=>BaL.bound h
 cells:=fun h=>BaL.cells h
theorem Grow.basl{q:Nat->Prop}{B:Nat}{cap:Nat}{l:List St}(h:Grow (elB w0 q) B w (.slice a n cap) l):BasL w0 q (B<=·) w a 0 l:=BasL.mk fun j x hx=>by obtain⟨b,g,cs,h1,h2,h3,h4⟩:=h.at j x hx;exact⟨b,g,cs,h1,h2,fun t v hv=>by rw[Nat.zero_add];exact h3 t v hv,h4⟩
def BaR(w0:World)(q:Nat->Prop)(w:World)(l:List St)(e:Ending)(w':World):Prop:=bL w w'/\∃v,e= .returned v/\Grow (elB w0 q) w.1.size w' v (St.pls l)
theorem pls_len:∀l:List St,(St.pls l).length=l.length
 | []=>by simp[St.pls]
 |s::r=>by simp[St.pls,pls_len r]
theorem pls_app:∀l m:List St,St.pls (l++m)=St.pls l++St.pls m
 | [],m=>by simp[St.pls]
 |s::r,m=>by simp[St.pls,pls_app r m]
theorem bst_step(w0:World)(q:Nat->Prop)(l:List St)(IH:∀y∈l,∀m,(m=St.bdy y∨m=St.elz y)->∀ (W:World) (a:Option Addr) (cap:Nat),bL w0 W->Roomy m.length cap->StsL q w0 a 0 m->Calls Tryz.prog 54 #[.slice a m.length cap] W (BaR w0 q W m))
 {cap:Nat}(HR:Roomy l.length cap)(hb0:bL w0 w)(HL:StsL q w0 a 0 l)(hL:l.length<=10000000):Calls Tryz.prog 54 #[.slice a l.length cap] w (BaR w0 q w l):=by
 have c9:Hid (Tryz.prog.underlying 44=some (.slice 60)):=O (by kernel_rfl);obtain⟨d9,h9,g2⟩:=under60;obtain⟨i6,z6,f6,g6,q6⟩:=zero60;obtain⟨i0,z0,M,a0,V7,Z,a4⟩:=info_el infoSt;have h4:Tryz.prog.follows .mixedOrders=true:=by kernel_rfl
 have HC:=O HL;have HI:=O IH;have HB0:=O hb0;have HLN:=O fun _:True=>hL;obtain⟨C,hN⟩:=eX l.length;rw[hN]at HR ⊢;have Q:=O hN;have d8:=O HR;clear hN HR HL IH hL hb0;go_enter Tryz.func54,Tryz.ntmps54;refine wk fun KK U=>?_;go_wp2_with fail;refine U.o _ _ ?_;clear U KK;refine wk fun KK U=>?_;go_wp2_with fail;refine U.o _ _ ?_;clear U KK;refine wk fun KK a2=>?_;go_wp2_with fail;go_loopg [3,4] C (fun x sv iv wr=>∃ (i:Nat) (acc:List St),i<=C/\x=C-i/\iv=I i/\Hid (acc=St.pls (l.take i))/\Hid (Grow (elB w0 q) w.1.size wr sv acc)/\Hid (bL w wr));case atStart=>exact⟨0,[],Nat.zero_le _,z,z,O (by simp[St.pls]),O (Grow.nil _ _ _),O (Below.refl _ _)⟩
 case round=>
  obtain⟨i,acc,hi,rfl,rfl,X,S,E⟩:=hrel;obtain⟨ga,a8,rfl,b6⟩:=S.o.form;have i4:=O b6;clear b6;by_cases a5:i<C
  .have h9':(i:Int)< (C:Int):=by omega
   have h8:(0:Int)<=(i:Int):=by omega
   have f4:Hid (wrap64 ((i:Int)+1)=((i+1:Nat):Int)):=O (by have h1:=d8.o.1;have h2:=d8.o.2;have:=IntWalk.wrap64_in ((i:Int)+1) (by omega);rw[this];omega)
   have hiq:i<l.length:=by rw[Q.o];exact a5
   obtain⟨b2,b8,ds,rfl,-,e3,a3⟩:=StsL.atF HC.o i hiq;rw[Nat.zero_add]at e3;have d2:l.getD i default∈l:=by rw[List.getD_eq_getElem?_getD,List.getElem?_eq_getElem hiq];exact List.getElem_mem _
   have d6:St.pls (l.take (i+1))=St.pls (l.take i)++[(l.getD i default).pl]:=by rw[List.take_succ_eq_append_getElem hiq,pls_app,List.getD_eq_getElem?_getD,List.getElem?_eq_getElem hiq];simp[St.pls]
   have IHy:=HI.o _ d2;have hlen:acc.length<=10000000:=by rw[X.o,pls_len,List.length_take];have:=HLN.o trivial;omega
   have HLEN:=O fun _:True=>hlen;have hcl:=O a3.cells;generalize l.getD i default=y at *;obtain⟨k,l0,c0,s,t,x,yy,body,els,id',sl,ot,lo⟩:=y;unfold StL at a3;obtain⟨cx,cy,ab,ae,cb,ce,hds,hX,hY,rb,sb,re,se⟩:=a3;obtain⟨NB,hNB⟩:=eX body.length;obtain⟨NE,hNE⟩:=eX els.length;have hIB:=IHy body (.inl z);have hIE:=IHy els (.inr z);rw[hNB]at hds hIB rb;rw[hNE]at hds hIE re;have HNB:=O (And.intro hNB hNE);have HIB:Hid (∀W,bL w0 W->Calls Tryz.prog 54 #[.slice ab NB cb] W (BaR w0 q W body)):=O fun W h=>hIB W ab cb h rb sb;have HIE:Hid (∀W,bL w0 W->Calls Tryz.prog 54 #[.slice ae NE ce] W (BaR w0 q W els)):=O fun W h=>hIE W ae ce h re se
   have g6':Hid (St.pls (l.take (i+1))=acc++[.mk k 0 0 s t x yy (St.pls body) (St.pls els) id' sl ot lo]):=O (by rw[d6,<-X.o,St.pl]);have HXY:=O (And.intro hX hY);have HRb:=O (And.intro rb re);have HDS:Hid (ds=stC k l0 c0 s t cx cy (.slice ab NB cb) (.slice ae NE ce) id' sl ot lo):=O hds;have HW:Hid (wr.rangeAt b2 (b8+i*25) ds):=O fun t v hv=>below_cl (HB0.o.trans (E.o.mono HB0.o.size)) _ _ _ (World.cellF_cell (e3 t v hv));clear IHy e3 d2 d6 hiq hX hY rb sb re se hNB hNE hIB hIE hds hlen;obtain⟨b5,hb5⟩:=eX wr.1.size;go_wp2_with (first
    | ((with_reducible refine l1 15 60 ?_);refine wpList_load_mid z 60 (.tmp 14) z b2 (b8+i*25) z ds d9 HW.o h9 g2 (by rw[hcl.o.1];exact info64) ?_)
    | ((with_reducible refine aa 5 (.alloc 60) ?_);refine wpList_alloc_blk f6 g6 q6 z z b5 hb5 ?_;intro W1 k1 b1 s1;have K1:=O k1;have B1:=O b1;clear k1 b1 s1)
    | ((with_reducible refine s0 60 ?_);refine wpList_store_ch info64 z (.tmp 5) (.tmp 15) z b5 ds _ z z K1.o z hcl.o ?_;intro W2 k2 c2;have K2:=O k2;have B2:Hid (bL wr W2):=O (c2.below (by omega) B1.o);clear k2 c2 K1 B1)
    | ((with_reducible refine s0 32 ?_);refine wpList_store_part info32a z (.tmp 17) (.tmp 16) z b5 1 [I 0,I 0] (pre:=[I k]) (mid:=[I l0,I c0]) z z (by have h:=K2.o;rw[HDS.o]at h;exact h) z z (two_one _ _) ?_;intro W3 k3 c3;have K3:Hid (Blk W3 b5 60 (stC k 0 0 s t cx cy (.slice ab NB cb) (.slice ae NE ce) id' sl ot lo)):=O k3;have B3:Hid (bL wr W3):=O (c3.below (by omega) B2.o);clear k3 c3 K2 B2)
   )
   obtain⟨V,hV⟩:=eX W3.drew;have hb:bL wr V:=by rw[<-hV];exact B3.o.drew
   have HS:Hid (Blk V b5 60 (stC k 0 0 s t cx cy (.slice ab NB cb) (.slice ae NE ce) id' sl ot lo)):=O (by rw[<-hV];exact K3.o.drew);have EV:Hid (bL wr V/\wr.1.size=b5/\b5<V.1.size):=O ⟨hb,hb5,HS.o.lt⟩;have HWR:Hid (∀W,bL wr W->bL w0 W):=O fun W h=> (HB0.o.trans (E.o.mono HB0.o.size)).trans (h.mono (HB0.o.trans (E.o.mono HB0.o.size)).size);clear hb K3 B3 HW hb5;refine wp_region_x [7,8,9] (fun W=>Blk W b5 60 (stC k 0 0 s t cx cy (.slice ab NB cb) (.slice ae NE ce) id' sl ot lo)) h4 ?_;rw[hV];clear hV;have hat:=stC_at z HXY.o.1.cells.1 HXY.o.2.cells.1 (C:=stC k 0 0 s t cx cy (.slice ab NB cb) (.slice ae NE ce) id' sl ot lo);have HAT:=O hat;clear hat;refine ag 0 ?_
   refine af (fun W=>W.cell? ⟨b5,19,none⟩=some (.slice ab NB cb)) 1 (fun W h=> (h.cell 19).trans HAT.o.2.2.2.2.2.1) ?_;refine nm ?_;refine ag 3 ?_;refine af (fun W=>W.cell? ⟨b5,20,none⟩=some (.slice ae NE ce)) 4 (fun W h=> (h.cell 20).trans HAT.o.2.2.2.2.2.2.1) ?_;refine nm ?_;refine oD 2 fun K F=>?_;go_simp;refine(HIB.o V (HWR.o V EV.o.1)).mono ?_;rintro e V1 ⟨hb1,v1,rfl,hg1⟩;obtain⟨g1,q1,rfl,hr1⟩:=hg1.form;have H1:Hid (Blk V1 b5 60 (stC k 0 0 s t cx cy (.slice ab NB cb) (.slice ae NE ce) id' sl ot lo)):=O (HS.o.below hb1);have E1:Hid (bL wr V1/\b5<V1.1.size):=O ⟨EV.o.1.trans (hb1.mono EV.o.1.size),H1.o.lt⟩
   have R1:Hid (Roomy (St.pls body).length q1/\BasL w0 q (fun c=>b5<c) V1 g1 0 (St.pls body)):=O ⟨hr1,(hg1.basl).weak fun c hc=>by have h1:=EV.o.2.2;have h2:V.1.size<=c:=hc;show b5<c;omega⟩
   apply F _ _ (fun _=>H1.o);clear F K hb1 hg1 hr1 HS;refine ag 6 ?_ H1;refine nm ?_;refine oD 5 fun K F=>?_;go_simp;refine(HIE.o V1 (HWR.o V1 E1.o.1)).mono ?_;rintro e V2 ⟨hb2,v2,rfl,hg2⟩;obtain⟨g2',q2,rfl,hr2⟩:=hg2.form;have H2:Hid (Blk V2 b5 60 (stC k 0 0 s t cx cy (.slice ab NB cb) (.slice ae NE ce) id' sl ot lo)):=O (H1.o.below hb2);have E2:Hid (bL wr V2):=O (E1.o.1.trans (hb2.mono E1.o.1.size));have R2:Hid ((Roomy (St.pls body).length q1/\BasL w0 q (fun c=>b5<c) V2 g1 0 (St.pls body))/\Roomy (St.pls els).length q2/\BasL w0 q (fun c=>b5<c) V2 g2' 0 (St.pls els)):=O ⟨⟨R1.o.1,R1.o.2.keep fun b o v _ hv=>below_cell hb2 b o v hv⟩,hr2,(hg2.basl).weak fun c hc=>by have h1:=E1.o.2;have h2:V1.1.size<=c:=hc;show b5<c;omega⟩
   apply F _ _ (fun _=>H2.o);clear F K hb2 hg2 hr2 R1 H1 E1;refine oD 7 fun K F=>?_;refine wp_store_one (by kernel_rfl) (.tmp 24) (.tmp 20) z b5 19 60 (.slice g1 (St.pls body).length q1) _ z z z z H2.o (by have:=HAT.o;simp[stC,HXY.o.1.cells.1,HXY.o.2.cells.1]) ?_;intro V3 k3 c3;rw[(stC_set HXY.o.1.cells.1 HXY.o.2.cells.1 _ 0 false).1]at k3;have H3:=O (And.intro k3 c3);apply F _ _ nofun;clear F K k3 c3;refine oD 8 fun K F=>?_;go_simp;apply F _ _ nofun;clear F K;refine oD 9 fun K F=>?_;refine wp_store_one (by kernel_rfl) (.tmp 25) (.tmp 23) z b5 20 60 (.slice g2' (St.pls els).length q2) _ z z z z H3.o.1 (by simp[stC,HXY.o.1.cells.1,HXY.o.2.cells.1]) ?_;intro V4 k4 c4
   rw[(stC_set HXY.o.1.cells.1 HXY.o.2.cells.1 _ 0 false).2.1]at k4;have H4:=O (And.intro k4 c4);apply F _ _ nofun;clear F K k4 c4;simp only[Act.put];refine dn ?_;have hwb:wr.1.size<=b5:=Nat.le_of_eq EV.o.2.1;have E4:Hid (bL wr V4):=O (H4.o.2.below hwb (H3.o.2.below hwb E2.o));have S4:=O (S.o.below E4.o);have hkc:∀ (b o:Nat) (v:Value),b5<b->V2.cellF ⟨b,o,none⟩=some v->V4.cellF ⟨b,o,none⟩=some v:=fun b o v hb hv=>by rw[H4.o.2.cellF (by omega),H3.o.2.cellF (by omega)];exact hv
   have hown:∀q,(Value.slice ga acc.length a8).ownBlock=some q->q<b5:=fun q hq=>by have:=(S.o.olt hq).2;have:=EV.o.2.1;omega
   have hws:w.1.size<=b5:=by have:=E.o.size;omega
   obtain⟨DS,hDS⟩:=eX (stC k 0 0 s t cx cy (.slice g1 (St.pls body).length q1) (.slice g2' (St.pls els).length q2) id' sl ot lo);have HBA:Hid (BaL w0 q (fun c=>w.1.size<=c/\(Value.slice ga acc.length a8).ownBlock≠some c) V4 DS (.mk k 0 0 s t x yy (St.pls body) (St.pls els) id' sl ot lo)):=O (by have hw:∀c,b5<c->w.1.size<=c/\(Value.slice ga acc.length a8).ownBlock≠some c:=fun c hc=>⟨by omega,fun e=>by have:=hown c e;omega⟩;unfold BaL;exact⟨cx,cy,g1,g2',q1,q2,hDS.symm,HXY.o.1,HXY.o.2,R2.o.1.1,(R2.o.1.2.keep hkc).weak hw,R2.o.2.1,(R2.o.2.2.keep hkc).weak hw⟩)
   have K4:Hid (Blk V4 b5 60 DS):=O (by rw[<-hDS];exact H4.o.1);have EW:Hid (bL w V4):=O (E.o.trans (E4.o.mono E.o.size));have hDL:=HBA.o.cells.1;clear hkc hown hws hDS hwb H4 H3 E4 R2 E2 H2 EV HWR S E HAT;go_wp2_with (first
    | ((with_reducible refine l1 27 60 ?_);refine wpList_load_blk h9 g2 info64 z (.tmp 5) z b5 DS z (O K4.o) hDL ?_)
    | ((with_reducible show wpList _ _ _ (Oper.mk (some 28) _ _ _ _ _::_) _ _);refine wpList_build1 z (.tmp 27) z c9.o M a0 V7 Z (by decide) (by decide) _ DS z z hDL ?_;obtain⟨gE,a1⟩:=eX (V4.1.size);rw[a1];intro Wb kb bb sb;have KB:=O kb;have S6:=O (S4.o.below bb);have E6:=O (EW.o.trans (bb.mono EW.o.size));have HB6:Hid ((elB w0 q).L (fun c=>w.1.size<=c/\(Value.slice ga acc.length a8).ownBlock≠some c) Wb DS (.mk k 0 0 s t x yy (St.pls body) (St.pls els) id' sl ot lo)):=O (BaL.keep (fun b o u _ hu=>below_cell bb b o u hu) HBA.o);clear kb bb sb a1 S4 EW HBA)
    | (at_builtin;refine wpList_append_at (elB w0 q) z (.tmp 26) (.tmp 28) 44 z i0 z0 c9.o M a0 V7 Z (Nat.succ_pos 24) a4 w.1.size Wb (.slice ga acc.length a8) acc z S6.o DS _ HB6.o _ 60 KB.o z (HLEN.o trivial) E6.o.size ?_;intro gb i1 W9 e2 d7 e5 e8;have S7:=O e2;have E7:=O (E6.o.trans d7);clear e2 d7 e5 e8)
   )
   go_roundg (C- (i+1));case measure=>omega
   case rel=>exact⟨i+1,_,by omega,z,congrArg (Value.int .i64) f4.o,O g6'.o.symm,by simpa using S7,E7⟩
  .obtain rfl:i=C:=by omega
   have i2:¬ (i:Int)< (i:Int):=by omega
   have hacc:acc=St.pls l:=by rw[X.o,List.take_of_length_le (by rw[Q.o];exact Nat.le_refl _)]
   subst hacc;go_wp2_with fail;refine a2.o _ _ ?_;clear a2;go_wp2_with fail;go_ret;exact⟨E.o,_,z,S.o⟩
theorem bst_any(w0:World)(q:Nat->Prop):∀ (n:Nat) (l:List St),(alL l).length<n->(alL l).length<=10000000->∀ {w:World} {a:Option Addr} {cap:Nat},Roomy l.length cap->bL w0 w->StsL q w0 a 0 l->Calls Tryz.prog 54 #[.slice a l.length cap] w (BaR w0 q w l)
 |0,l,h,_,_,_,_,_,_,_=>absurd h (Nat.not_lt_zero _)
 |n+1,l,h,hL,w,a,cap,HR,hb,HL=>by
  refine bst_step w0 q l (fun y hy m hm W a' cap' hb' hr' hl'=>?_) HR hb HL (Nat.le_trans (len_alL l) hL)
  obtain⟨i,hi,rfl⟩:=List.mem_iff_getElem.1 hy
  have h1:=alL_len l i hi
  rw[List.getD_eq_getElem?_getD,List.getElem?_eq_getElem hi]at h1
  have h2:(alS l[i]).length=(alL l[i].bdy).length+(alL l[i].elz).length+1:=by rw[alS_eq,List.length_cons,List.length_append]
  have h3:((some l[i]).getD default)=l[i]:=z
  rw[h3]at h1
  refine bst_any w0 q n m ?_ ?_ hr' hb' hl'
  .rcases hm with rfl|rfl<;>omega
  .rcases hm with rfl|rfl<;>omega
structure Tz (B i g:Nat) (T:List Th) (C:List Value) (W:World):Prop where
 k:Blk W g 71 C
 ge:B<=g
 ln:T.length*3<=C.length
 d:∀j x,j<i->T[j]? =some x->∃cs,Th.L (fun c=>B<=c/\c≠g) W cs x.pl/\∀t,t<3->C[j*3+t]? =cs[t]?
 r:∀j x,i<=j->T[j]? =some x->∃cs,Th.L (fun c=>B<=c/\c≠g) W cs x/\∀t,t<3->C[j*3+t]? =cs[t]?
section
variable {B i g:Nat} {T:List Th} {C:List Value} {W W':World}
theorem Tz.of{N:Nat}(h:Tq B N g T C W)(hN:T.length<=N):Tz B 0 g T C W:=⟨h.k,h.ge,h.ln,fun j x hj=>absurd hj (Nat.not_lt_zero _),fun j x _ hx=>by obtain⟨cs,h1,h2⟩:=h.d j x (Nat.lt_of_lt_of_le (List.getElem?_eq_some_iff.1 hx).1 hN) hx;exact⟨cs,elTh.weak (fun c hc=>hc.1) h1,h2⟩⟩
theorem Tz.below(h:Tz B i g T C W)(hb:bL W W'):Tz B i g T C W':=⟨h.k.below hb,h.ge,h.ln,fun j x hj hx=>by
 obtain⟨cs,h1,h2⟩:=h.d j x hj hx;exact⟨cs,elTh.keep (fun b o u _ hu=>below_cell hb b o u hu) h1,h2⟩,fun j x hj hx=>by
 obtain⟨cs,h1,h2⟩:=h.r j x hj hx;exact⟨cs,elTh.keep (fun b o u _ hu=>below_cell hb b o u hu) h1,h2⟩⟩
theorem Tz.set{x:Th}{cap:Nat}(h:Tz B i g T C W)(hx:T[i]? =some x)(hr:Roomy (St.pls x.body).length cap)(ht:StsL (fun c=>B<=c/\c≠g) W a 0 (St.pls x.body))(hk:Blk W' g 71 (C.set (i*3+2) (.slice a (St.pls x.body).length cap)))(hc:Ch g W W'):Tz B (i+1) g T (C.set (i*3+2) (.slice a (St.pls x.body).length cap)) W':=by
 have hcf:∀ (b o:Nat) (u:Value),(B<=b/\b≠g)->W.cellF ⟨b,o,none⟩=some u->W'.cellF ⟨b,o,none⟩=some u:=fun b o u hb hu=>by rw[hc.cellF hb.2];exact hu
 have hi:i<T.length:=(List.getElem?_eq_some_iff.1 hx).1;refine⟨hk,h.ge,by rw[List.length_set];exact h.ln,fun j y hj hy=>?_,fun j y hj hy=>?_⟩
 .by_cases e:j=i
  .subst e;rw[hx]at hy;cases hy;obtain⟨cs,⟨a0,cap0,rfl,-,-⟩,r2⟩:=h.r j x (Nat.le_refl _) hx;refine⟨[.string x.name,.int .i64 (x.locals:Int),.slice a (St.pls x.body).length cap],⟨a,cap,z,hr,StsL.keep hcf ht⟩,fun t ht3=>?_⟩;have hl:=h.ln;have q0:=r2 0 (by decide);have q1:=r2 1 (by decide);rcases t with _|_|_|t
   .rw[List.getElem?_set_ne (by omega)];exact q0
   .rw[List.getElem?_set_ne (by omega)];exact q1
   .rw[List.getElem?_set_self (by omega)];rfl
   .omega
  .obtain⟨cs,h1,h2⟩:=h.d j y (by omega) hy;exact⟨cs,elTh.keep hcf h1,fun t ht3=>by rw[List.getElem?_set_ne (by omega)];exact h2 t ht3⟩
 .obtain⟨cs,h1,h2⟩:=h.r j y (by omega) hy;exact⟨cs,elTh.keep hcf h1,fun t ht3=>by rw[List.getElem?_set_ne (by omega)];exact h2 t ht3⟩
theorem Tz.ro{cap:Nat}(h:Tz B T.length g T C W)(hr:Roomy T.length cap):Ro elTh (fun _=>True) W (.slice (some ⟨g,0,none⟩) T.length cap) (T.map Th.pl):=by
 refine⟨some ⟨g,0,none⟩,cap,by rw[List.length_map],by rw[List.length_map];exact hr,fun j y hy=>?_⟩;rw[List.getElem?_map]at hy;obtain⟨x,hx,rfl⟩:=Option.map_eq_some_iff.1 hy;have hj:=(List.getElem?_eq_some_iff.1 hx).1;obtain⟨cs,h1,h2⟩:=h.d j x hj hx;refine⟨g,0,cs,z,trivial,fun t v hv=>?_,elTh.weak (fun c _=>trivial) h1⟩;have h3:t<3:=by have:=(List.getElem?_eq_some_iff.1 hv).1;have h4:=(elTh.cells h1).1;rw[h4]at this;exact this
 refine World.cellF_mk (c:=C.toArray) (ty:=71) h.k ?_;rw[h.k.cell];show C[0+j*3+t]? =some v;rw[Nat.zero_add,h2 t h3];exact hv
end
structure Bz (w:World) (b B:Nat) (S:List Value) (P:Pg) (v0 v1 v4:Value) (ga:Option Addr) (m0 m1 m2 m3 m4:Value) (i:Nat) (W:World):Prop where
 lo:bL w W
 p:Blk W b 30 S
 r:Blk W (b+1) 30 zPgC
 le:w.1.size<=b/\b+2<=B
 k:Ck3 (fun c=>B<=c/\ga≠some ⟨c,0,none⟩) P v0 v1 v4 W
 n:Nm5 (fun c=>B<=c/\ga≠some ⟨c,0,none⟩) P m0 m1 m2 m3 m4 W
 t:(ga=none/\P.threads=[])∨∃g C,ga=some ⟨g,0,none⟩/\Tz B i g P.threads C W
section
variable {w W W':World} {b B:Nat} {S:List Value} {P:Pg} {v0 v1 v4:Value} {ga:Option Addr} {m0 m1 m2 m3 m4:Value} {i:Nat}
theorem Bz.below(h:Bz w b B S P v0 v1 v4 ga m0 m1 m2 m3 m4 i W)(hb:bL W W'):Bz w b B S P v0 v1 v4 ga m0 m1 m2 m3 m4 i W':=
 ⟨h.lo.trans (hb.mono h.lo.size),h.p.below hb,h.r.below hb,h.le,h.k.keep fun b o u _ hu=>below_cell hb b o u hu,h.n.keep fun b o u _ hu=>below_cell hb b o u hu,h.t.imp id fun ⟨g,C,h1,h2⟩=>⟨g,C,h1,h2.below hb⟩⟩
theorem Bz.set{C:List Value}{i':Nat}(h:Bz w b B S P v0 v1 v4 (some ⟨g,0,none⟩) m0 m1 m2 m3 m4 i W)(hg:B<=g)(hc:Ch g W W')(ht:Tz B i' g P.threads C W'):Bz w b B S P v0 v1 v4 (some ⟨g,0,none⟩) m0 m1 m2 m3 m4 i' W':=by
 have hl:=h.le;have hcf:∀ (b o:Nat) (u:Value),(B<=b/\(some ⟨g,0,none⟩:Option Addr)≠some ⟨b,0,none⟩)->W.cellF ⟨b,o,none⟩=some u->W'.cellF ⟨b,o,none⟩=some u:=fun b o u hb hu=>by rw[hc.cellF (fun e=>hb.2 (by rw[e]))];exact hu
 exact⟨hc.below (by omega) h.lo,hc.blk (by omega) h.p,hc.blk (by omega) h.r,hl,h.k.keep hcf,h.n.keep hcf,.inr ⟨g,C,z,ht⟩⟩
end
def BareR(w:World)(P:Pg)(e:Ending)(w':World):Prop:=bL w w'/\∃qs,e= .returned (.agg qs.toArray)/\PgRL (fun _=>True) w' P.pl qs
theorem bare_any{P:Pg}{ps:List Value}(hP:PgRL (fun _=>True) w P ps)(hB:PgB P):Calls Tryz.prog 24 #[.agg ps.toArray] w (BareR w P):=by
 obtain⟨i8,z8,f6,g2,g5⟩:=zero30;obtain⟨d8,e8,r8⟩:=under30;have h4:Tryz.prog.follows .mixedOrders=true:=by kernel_rfl
 have HP:=O hP;have HB:=O hB;have hone:=O hP.cells;clear hP hB;have hl13:=hone.o.1;go_enter Tryz.func24,Tryz.ntmps24;obtain⟨b,hb0⟩:=eX w.1.size;refine wk fun KK U=>?_;go_wp2_with (first
  | ((with_reducible refine aa 1 (.box 30 _) ?_);refine wpList_box_blk z (.tmp 0) z ps z b hb0 ?_;intro W1 k1 b1 s1;have K1:=O k1;have B1:=O b1;clear k1 b1)
  | ((with_reducible refine aa 2 (.alloc 30) ?_);refine wpList_alloc_blk f6 g2 g5 z z (b+1) s1 ?_;intro W2 k2 b2 s2;have K2:=O k2;have B2:=O b2;clear k2 b2)
 )
 refine U.o _ _ ?_;clear U KK;have hlo:bL w W2:=B1.o.trans (B2.o.mono B1.o.size);have HLO:Hid (bL w W2/\w.1.size<=b/\W2.1.size=b+2):=O ⟨hlo,Nat.le_of_eq hb0,s2⟩;have K12:=O (K1.o.below B2.o);clear K1 B1 B2 s1 s2 hb0 hlo;refine wk fun KK U=>?_;go_wp2_with (first
  | ((with_reducible refine l1 4 30 ?_);refine wpList_load_blk e8 r8 info30 z (.tmp 1) z b ps z (O K12.o) hl13 ?_)
 )
 refine(pgcopy2_any (HP.o.kept fun b o u _ hu=>below_cell HLO.o.1 b o u hu) HB.o).mono ?_;rintro e W3 ⟨hb3,v0,v1,v4,ga,gc,m0,m1,m2,m3,m4,rfl,hr,hc,hn⟩;obtain⟨N,hN⟩:=eX P.threads.length;have HN:=O hN;rw[hN]at hr ⊢;obtain⟨S,hS⟩:=eX (pgC P v0 v1 v4 (.slice ga N gc) m0 m1 m2 m3 m4 []);have HSS:=O hS;rw[hS];have hS1:Hid (S.length=13/\∀v∈S,v.oneCell'=true):=O (by
  have h1:v0.oneCell'=true:=by obtain⟨_,_,h,-⟩:=hc.k.v;rw[h];rfl
  have h2:v1.oneCell'=true:=by obtain⟨_,_,h,-⟩:=hc.k.a;rw[h];rfl
  have h3:v4.oneCell'=true:=by obtain⟨_,_,h,-⟩:=hc.k.c;rw[h];rfl
  have h5:m0.oneCell'=true:=by obtain⟨_,_,h,-⟩:=hn.v;rw[h];rfl
  have h6:m1.oneCell'=true:=by obtain⟨_,_,h,-⟩:=hn.a;rw[h];rfl
  have h7:m2.oneCell'=true:=by obtain⟨_,_,h,-⟩:=hn.m;rw[h];rfl
  have h8:m3.oneCell'=true:=by obtain⟨_,_,h,-⟩:=hn.c;rw[h];rfl
  have h9:m4.oneCell'=true:=by obtain⟨_,_,h,-⟩:=hn.h;rw[h];rfl
  rw[<-hS];refine⟨z,fun v hv=>?_⟩;simp only[pgC,List.mem_cons,List.not_mem_nil,or_false]at hv;rcases hv with rfl|rfl|rfl|rfl|rfl|rfl|rfl|rfl|rfl|rfl|rfl|rfl|rfl<;>first|assumption|rfl)
 have K3:=O (And.intro (K12.o.below hb3) (K2.o.below hb3));have C3:=O (And.intro hb3 (And.intro hc hn));have HR:=O hr;clear hb3 hr hc hn hN hS K12 K2;go_wp2_with (first
  | ((with_reducible refine s0 30 ?_);refine wpList_store_ch info30 z (.tmp 1) (.tmp 5) z b S _ z z K3.o.1 hl13 hS1.o ?_;intro W4 k4 c4;have K4:=O (And.intro k4 c4);clear k4 c4)
 )
 refine U.o _ _ ?_;clear U KK;have E4:Hid (Bz w b (W2.1.size+3) S P v0 v1 v4 ga m0 m1 m2 m3 m4 0 W4):=O (by
  have hlt:b<W2.1.size+3:=by have:=HLO.o.2.2;omega
  have hcc:=C3.o.2.1.ch K4.o.2 hlt;refine⟨K4.o.2.below HLO.o.2.1 (HLO.o.1.trans (C3.o.1.mono HLO.o.1.size)),K4.o.1,K4.o.2.blk (by omega) K3.o.2,⟨HLO.o.2.1,by have:=HLO.o.2.2;omega⟩,hcc.k,C3.o.2.2.keep fun c o u hc hu=>?_,hcc.t.imp id fun ⟨g,C,h1,h2⟩=>⟨g,C,h1,Tz.of h2 (Nat.le_refl _)⟩⟩;rw[K4.o.2.cellF (by have:=hc.1;omega)];exact hu)
 obtain⟨B0,hB0⟩:=eX (W2.1.size+3);rw[hB0]at E4;have i5:Hid (N<=9223372036854775807):=O (Nat.le_trans HR.o.1 HR.o.2);clear K3 K4 C3 HLO hB0;refine wk fun KK U=>?_;have HC5:Hid (S[5]? =some (.slice ga N gc)):=O (by rw[<-HSS.o];rfl);go_wp2_with fail;go_loopg [3] N (fun x iv wr=>∃ (i:Nat),i<=N/\x=N-i/\iv=I i/\Hid (Bz w b B0 S P v0 v1 v4 ga m0 m1 m2 m3 m4 i wr));case atStart=>exact⟨0,Nat.zero_le _,z,z,E4⟩
 case round=>
  clear E4;obtain⟨i,hi,rfl,rfl,E⟩:=hrel;have c5:wr.cell? ⟨b,5,none⟩=some (.slice ga N gc):=(E.o.p.cell 5).trans HC5.o;by_cases a6:i<N
  .have h9:(i:Int)< (N:Int):=by omega
   have h8:(0:Int)<=(i:Int):=by omega
   have f4:Hid (wrap64 ((i:Int)+1)=((i+1:Nat):Int)):=O (by have h1:=i5.o;have:=IntWalk.wrap64_in ((i:Int)+1) (by omega);rw[this];omega)
   obtain⟨x,hx⟩:∃x,P.threads[i]? =some x:=⟨_,List.getElem?_eq_getElem (by rw[HN.o];exact a6)⟩;obtain⟨g,C,rfl,hTz⟩:∃g C,ga=some ⟨g,0,none⟩/\Tz B0 i g P.threads C wr:=by
    rcases E.o.t with ⟨-,h⟩|h
    .rw[h]at hx;simp at hx
    .exact h
   obtain⟨cs,⟨ba,bc,hcs,hrb,hsb⟩,hC⟩:=hTz.r i x (Nat.le_refl _) hx;have hC2:C[i*3+2]? =some (.slice ba x.body.length bc):=by rw[hC 2 (by decide),hcs];rfl
   have HXB:=O (HB.o.b x (List.mem_of_getElem? hx));obtain⟨NB,hNB⟩:=eX x.body.length;have HNB:=O hNB;rw[hNB]at hC2 hrb;have HC2:=O hC2;have HX:=O (And.intro hx (And.intro hrb hsb));have HTz:=O hTz;clear hC hC2 hx hrb hsb hTz hcs hNB;go_wp2_with fail;clear c5;obtain⟨V,hV⟩:=eX wr.drew;have hb:bL wr V:=by rw[<-hV];exact(Below.refl _ _).drew
   have EV:=O (E.o.below hb);have TV:=O (HTz.o.below hb);have SV:Hid (StsL (fun c=>B0<=c/\c≠g) V ba 0 x.body):=O (HX.o.2.2.keep fun b o v _ hv=>below_cell hb b o v hv);clear E HTz hb;refine wp_region_x [12] (fun W=>bL V W) h4 ?_;rw[hV];clear hV;have HS:Hid (bL V V):=O (Below.refl _ _);refine ag 0 ?_;refine af (fun W=>W.cell? ⟨b,5,none⟩=some (.slice (some ⟨g,0,none⟩) N gc)) 1 (fun W h=> ((EV.o.below h).p.cell 5).trans HC5.o) ?_;refine ak 2 ?_;refine nm ?_;refine af (fun W=>W.cell? ⟨b,5,none⟩=some (.slice (some ⟨g,0,none⟩) N gc)) 4 (fun W h=> ((EV.o.below h).p.cell 5).trans HC5.o) ?_;refine nm ?_;refine ai 5 ?_;refine nm ?_
   refine af (fun W=>W.cell? ⟨g,i*3+2,none⟩=some (.slice ba NB bc)) 8 (fun W h=> ((TV.o.below h).k.cell _).trans HC2.o) ?_;refine nm ?_;refine oD 9 fun K F=>?_;go_simp;have hcall:=bst_any V (fun c=>B0<=c/\c≠g) _ x.body (Nat.lt_succ_self _) (by have:=HXB.o.2.1;rw[cns_len]at this;omega) (w:=V) (a:=ba) (cap:=bc) (by rw[HNB.o];exact HX.o.2.1) (Below.refl _ _) SV.o;rw[HNB.o]at hcall;refine hcall.mono ?_;clear hcall;rintro e W5 ⟨hb5,u,rfl,hg⟩;obtain⟨a3,c3,rfl,hr3⟩:=hg.form;have P5:Hid (bL V W5):=O hb5;have E5:=O (EV.o.below hb5);have T5:=O (TV.o.below hb5);have HB5:Hid (Roomy (St.pls x.body).length c3/\StsL (fun c=>B0<=c/\c≠g) W5 a3 0 (St.pls x.body)):=O ⟨hr3,(BasL.st hb5 hg.basl).weak fun c hc=>by
    rcases hc with hc|hc
    .exact hc
    .have h1:V.1.size<=c:=hc;have h2:=TV.o.k.lt;have h3:=TV.o.ge;exact⟨by omega,by omega⟩⟩
   apply F _ _ (fun _=>P5.o);clear F K hb5 hg hr3 EV TV SV;refine ak 10 ?_ P5;refine nm ?_;refine oD 12 fun K F=>?_;have hi3:Hid (i*3+2<C.length):=O (by have h1:=T5.o.ln;rw[HN.o]at h1;omega);refine wp_store_one (by kernel_rfl) (.tmp 24) (.tmp 22) z g (i*3+2) 71 (.slice a3 (St.pls x.body).length c3) C z z z z T5.o.k hi3.o ?_;intro W6 k6 c6;have T6:=O (T5.o.set HX.o.1 HB5.o.1 HB5.o.2 k6 c6);have E6:=O (E5.o.set T5.o.ge c6 T6.o);apply F _ _ nofun;clear F K k6 c6 E5 T5 HB5 T6;simp only[Act.put];refine dn ?_;go_wp2_with fail;go_roundg (N- (i+1));case measure=>omega
   case rel=>exact⟨i+1,by omega,z,congrArg (Value.int .i64) f4.o,E6⟩
  .obtain rfl:i=N:=by omega
   have i2:¬ (i:Int)< (i:Int):=by omega
   go_wp2_with fail;clear c5;refine U.o _ _ ?_;clear U;have hl:=hS1.o.1;go_wp2_with (first
    | ((with_reducible refine l0 30 ?_);refine wpList_load_blk e8 r8 info30 z (.tmp 1) z b S z (O E.o.p) hl ?_)
    | ((with_reducible refine s0 30 ?_);refine wpList_store_ch info30 z (.tmp 2) (.tmp 25) z (b+1) S _ z z E.o.r z hS1.o ?_;intro W9 k9 c9;have X:=O (And.intro k9 c9);clear k9 c9)
   )
   refine end_blk e8 r8 info30 X.o.1 hl z z z ?_;have hle:=E.o.le;have hcf:∀ (c o:Nat) (u:Value),(B0<=c/\ga≠some ⟨c,0,none⟩)->wr.cellF ⟨c,o,none⟩=some u->W9.cellF ⟨c,o,none⟩=some u:=fun c o u hc hu=>by rw[X.o.2.cellF (by have:=hc.1;omega)];exact hu
   have hk:=E.o.k.keep hcf;have hn:=E.o.n.keep hcf;have tr:∀c,(B0<=c/\ga≠some ⟨c,0,none⟩)->True:=fun _ _=>trivial;refine⟨X.o.2.below (by omega) E.o.lo,S,z,v0,v1,v4,.slice ga i gc,m0,m1,m2,m3,m4,HSS.o.symm,hk.v.weak tr,hk.a.weak tr,hk.c.weak tr,?_,hn.v.weak tr,hn.a.weak tr,hn.m.weak tr,hn.c.weak tr,hn.h.weak tr⟩;show Ro elTh (fun _=>True) W9 (.slice ga i gc) (P.threads.map Th.pl);rcases E.o.t with ⟨-,h⟩|⟨g,C,rfl,h⟩
   .have e0:i=0:=by rw[<-HN.o,h];rfl
    rw[h,e0];refine⟨ga,gc,z,by have:=HR.o;rw[e0]at this;exact this,fun j x hx=>by simp at hx⟩
   .have h2:Tz B0 i g P.threads C W9:=by
     have hgb:=h.ge;have hcf2:∀ (c o:Nat) (u:Value),(B0<=c/\c≠g)->wr.cellF ⟨c,o,none⟩=some u->W9.cellF ⟨c,o,none⟩=some u:=fun c o u hc hu=>by rw[X.o.2.cellF (by have:=hc.1;omega)];exact hu
     refine⟨X.o.2.blk (by omega) h.k,h.ge,h.ln,fun j x hj hx=>?_,fun j x hj hx=>?_⟩
     .obtain⟨cs,h1,h2⟩:=h.d j x hj hx;exact⟨cs,elTh.keep hcf2 h1,h2⟩
     .obtain⟨cs,h1,h2⟩:=h.r j x hj hx;exact⟨cs,elTh.keep hcf2 h1,h2⟩
    rw[<-HN.o]at h2;have hr:=HR.o;rw[<-HN.o]at hr ⊢;exact h2.ro hr
end Go.Proofs.YtgppcdfgdaggjaaGreatDoor
