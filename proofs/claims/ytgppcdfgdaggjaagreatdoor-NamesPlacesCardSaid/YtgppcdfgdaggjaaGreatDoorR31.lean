/- Texts laid together. No condition but what each law says. -/
import Derived.Test.YtgppcdfgdaggjaaGreatDoorR49
import Derived.Test.YtgppcdfgdaggjaaGreatDoorR30
set_option maxRecDepth 100000
set_option maxHeartbeats 8000000
namespace Go.Proofs.YtgppcdfgdaggjaaGreatDoor
open Go.RowKit Go.Maps
variable {w w0:World}{v:Value}{b:Nat}{a:Option Addr}
theorem zero44:∃i z,Tryz.prog.info? 44=some i/\i.zero=some z/\z.cells=([.slice none 0 0]:List Value).toArray:=infoZ (by kernel_rfl)
def SmR(w:World)(l:List St)(e:Ending)(w':World):Prop:=bL w w'/\∃bt a cap,e= .returned (.func (.func 126) #[] #[Pt bt])/\w.1.size<=bt/\Blk w' bt 44 [.slice a l.length cap]/\Roomy l.length cap/\StsL (fun c=>w.1.size<=c/\c<w'.1.size) w' a 0 l
theorem stmts_any(v0 v1 v2 v3 v4:Value)(a:Option Addr)(cap:Nat)(args:List St)(HR:Roomy args.length cap)(b5:args.length<=10000000)(hs:St.szs args)(HL:StsL (fun _=>True) w a 0 args):
  Calls Tryz.prog 87 #[.agg #[v0,v1,v2,v3,v4,.slice a args.length cap]] w (SmR w args):=by
 obtain⟨i4,z4,f4,g4,h5⟩:=zero44;have HC:Hid (∀ (W:World) (c mS mE:Nat),bL w W->mS≠mE->Cpr W c mS mE #[] #[]->Calls Tryz.prog 125 #[Pt c,.slice a args.length cap] W (ClR W c mS mE #[] args)):=O fun W c mS mE hb hne hm=> csts_any a cap args HR b5 hm hne (StsL.keep (fun b o v _ hv=>below_cell hb b o v hv) HL) (fun y _=>KeyS.nil) fun y hy W b o ds H=>cst_all _ y (Nat.lt_succ_self _) (St.szs_mem hs hy) H;obtain⟨C,hN⟩:=eX args.length;have HQ:=O hN;have HRR:=O HR;rw[hN];simp only[hN]at HC;clear hN HR b5 hs HL;have h4:Tryz.prog.follows .mixedOrders=true:=by kernel_rfl
 go_enter Tryz.func87,Tryz.ntmps87;refine wk fun KK U=>?_;go_wp2_with (first
  | (with_reducible refine aa 1 (.box 46 (.tmp 0)) ?_;refine wpList_box_blk z (.tmp 0) z [v0,v1,v2,v3,v4,.slice a C cap] z w.1.size z ?_;intro W1 k1 b1 s1;have K1:=O k1;have B1:=O b1;clear k1 b1 s1)
 )
 refine U.o _ _ ?_;clear U KK;refine wk fun KK U=>?_;obtain⟨V,hV⟩:=eX W1.drew;have KV:Hid (Blk V w.1.size 46 [v0,v1,v2,v3,v4,.slice a C cap]):=O (by rw[<-hV];exact K1.o.drew);have BV:Hid (bL w V):=O (by rw[<-hV];exact B1.o.drew);clear K1 B1;go_wp2;refine wp_region_x [] (fun W=>bL V W/\True) h4 ?_;rw[hV];clear hV;have HS:Hid (bL V V/\True):=O ⟨Below.refl _ _,trivial⟩;refine ag 1 ?_;refine af (fun W=>W.cell? ⟨w.1.size,5,none⟩=some (.slice a C cap)) 2 (fun W h=>by rw[(KV.o.below h.1).cell];rfl) ?_;refine nm ?_;refine wpX_three [0,4] (by kernel_rfl) ?_ (by decide);intro i hi;simp only[List.mem_cons,List.not_mem_nil,or_false]at hi;rcases hi with rfl|rfl
 .refine⟨_,z,z,fun K F=>?_⟩;have PV:Hid (bL V V):=O (Below.refl _ _);go_simp;refine(newC_any V).mono ?_;rintro e A1 ⟨hb,c,mS,mE,rfl,hne,hs1,hs2,hm⟩;have PA1:Hid (bL V A1):=O (PV.o.trans (hb.mono PV.o.size));have CM:Hid (mS≠mE/\V.1.size<=mS/\V.1.size<=mE):=O ⟨hne,by have:=PV.o.size;omega,by have:=PV.o.size;omega⟩;have CA1:=O hm;apply F _ _ (fun _=>⟨PA1.o,trivial⟩);clear F K hb hne hs1 hs2 hm;refine wpX_three [3,4] (by kernel_rfl) ?_ (by decide);intro i hi;simp only[List.mem_cons,List.not_mem_nil,or_false]at hi;rcases hi with rfl|rfl
  .refine⟨_,z,z,fun K F=>?_⟩;go_simp;refine(HC.o A1 c mS mE (BV.o.trans (PA1.o.mono BV.o.size)) CM.o.1 CA1.o).mono ?_;rintro e A2 ⟨⟨ra,rc,rfl,hr,hl⟩,hk,hm⟩;have PA2:Hid (bL V A2):=O (hk.to_below PA1.o PA1.o.size CM.o.2.1 CM.o.2.2);have RA2:Hid (Roomy args.length rc/\StsL (fun q=>V.1.size<=q/\q<A2.1.size) A2 ra 0 args):=O ⟨hr,StsL.weak (fun q hq=>by have h1:A1.1.size<=q:=hq.1;have:=PA1.o.size;exact⟨by omega,hq.2⟩) (StsL.bound hl)⟩;rw[HQ.o];apply F _ _ (fun _=>⟨PA2.o,trivial⟩);clear F K hk hm hr hl;refine oD 4 fun K F=>?_;obtain⟨bt,hbt⟩:=eX A2.1.size;refine wp_alloc_blk f4 g4 h5 z bt hbt ?_;intro A3 kk bb ss;have PA3:Hid (bL V A3):=O (PA2.o.trans (bb.mono PA2.o.size))
   have TA3:Hid (Blk A3 bt 44 [.slice none 0 0]/\V.1.size<=bt):=O ⟨kk,by have:=PA2.o.size;omega⟩;have RA3:Hid (Roomy args.length rc/\StsL (fun q=>V.1.size<=q/\q≠bt) A3 ra 0 args):=O ⟨RA2.o.1,StsL.weak (fun q hq=>⟨hq.1,by have:=hq.2;omega⟩) (StsL.keep (fun b o v _ hv=>below_cell bb b o v hv) RA2.o.2)⟩;change K (Act.put _ (some 3) _) A3;apply F _ _ (fun _=>⟨PA3.o,trivial⟩);clear F K kk bb ss hbt;refine nm ?_;refine oD 5 fun K F=>?_;refine wp_store_one (by kernel_rfl) (.tmp 3) (.tmp 7) z bt 0 44 (.slice ra C rc) _ z z z z TA3.o.1 (by decide) ?_;intro W9 k9 c9;have P9:Hid (bL V W9):=O (c9.below TA3.o.2 PA3.o);apply F _ _ (fun _=>⟨P9.o,trivial⟩);have K9:Hid (Blk W9 bt 44 [.slice ra C rc]):=O k9
   have R9:Hid (Roomy args.length rc/\StsL (fun q=>V.1.size<=q/\q≠bt) W9 ra 0 args):=O ⟨RA3.o.1,StsL.keep (fun b o v hb hv=>by rw[c9.cellF hb.2];exact hv) RA3.o.2⟩;clear F K k9 c9;simp only[Act.put];refine dn ?_;have T9:Hid (V.1.size<=bt):=O TA3.o.2;have HB9:=O (BV.o.trans (P9.o.mono BV.o.size));go_wp2_with fail;refine U.o _ _ ?_;clear U KK;go_wp2_with fail;go_ret;exact⟨HB9.o,bt,ra,rc,z,by have:=T9.o;have:=BV.o.size;omega,by rw[HQ.o];exact K9.o,R9.o.1,StsL.weak (fun q hq=>⟨by have:=hq.1.1;have:=BV.o.size;omega,hq.2⟩) (StsL.bound R9.o.2)⟩
  .refine⟨_,z,z,fun K F=>?_⟩;obtain⟨bt,hbt⟩:=eX A1.1.size;refine wp_alloc_blk f4 g4 h5 z bt hbt ?_;intro A2 kk bb ss;have PA2:Hid (bL V A2):=O (PA1.o.trans (bb.mono PA1.o.size));have TA2:Hid (Blk A2 bt 44 [.slice none 0 0]/\V.1.size<=bt):=O ⟨kk,by have:=PA1.o.size;omega⟩;have CA2:=O (CA1.o.below bb);change K (Act.put _ (some 3) _) A2;apply F _ _ (fun _=>⟨PA2.o,trivial⟩);clear F K kk bb ss hbt;refine nm ?_;refine oD 3 fun K F=>?_;go_simp;refine(HC.o A2 c mS mE (BV.o.trans (PA2.o.mono BV.o.size)) CM.o.1 CA2.o).mono ?_;rintro e A3 ⟨⟨ra,rc,rfl,hr,hl⟩,hk,hm⟩;have PA3:Hid (bL V A3):=O (hk.to_below PA2.o PA2.o.size CM.o.2.1 CM.o.2.2)
   have RA3:Hid (Roomy args.length rc/\StsL (fun q=>V.1.size<=q/\q≠bt) A3 ra 0 args):=O ⟨hr,StsL.weak (fun q hq=>by have h1:A2.1.size<=q:=hq;have:=PA2.o.size;have h2:=TA2.o.1.lt;exact⟨by omega,by omega⟩) hl⟩;have TA3:=O (And.intro (TA2.o.1.kp hk (fun e=>by have h1:=CA2.o.s;obtain⟨_,h1⟩:=h1;have h2:=TA2.o.1;unfold Blk at h2;rw[e,h1]at h2;cases h2) (fun e=>by have h1:=CA2.o.e;obtain⟨_,h1⟩:=h1;have h2:=TA2.o.1;unfold Blk at h2;rw[e,h1]at h2;cases h2)) TA2.o.2);rw[HQ.o];apply F _ _ (fun _=>⟨PA3.o,trivial⟩);clear F K hk hm hr hl;refine oD 5 fun K F=>?_;refine wp_store_one (by kernel_rfl) (.tmp 3) (.tmp 7) z bt 0 44 (.slice ra C rc) _ z z z z TA3.o.1 (by decide) ?_;intro W9 k9 c9
   have P9:Hid (bL V W9):=O (c9.below TA3.o.2 PA3.o);apply F _ _ (fun _=>⟨P9.o,trivial⟩);have K9:Hid (Blk W9 bt 44 [.slice ra C rc]):=O k9;have R9:Hid (Roomy args.length rc/\StsL (fun q=>V.1.size<=q/\q≠bt) W9 ra 0 args):=O ⟨RA3.o.1,StsL.keep (fun b o v hb hv=>by rw[c9.cellF hb.2];exact hv) RA3.o.2⟩;clear F K k9 c9;simp only[Act.put];refine dn ?_;have T9:Hid (V.1.size<=bt):=O TA3.o.2;have HB9:=O (BV.o.trans (P9.o.mono BV.o.size));go_wp2_with fail;refine U.o _ _ ?_;clear U KK;go_wp2_with fail;go_ret;exact⟨HB9.o,bt,ra,rc,z,by have:=T9.o;have:=BV.o.size;omega,by rw[HQ.o];exact K9.o,R9.o.1,StsL.weak (fun q hq=>⟨by have:=hq.1.1;have:=BV.o.size;omega,hq.2⟩) (StsL.bound R9.o.2)⟩
 .refine⟨_,z,z,fun K F=>?_⟩;have PV:Hid (bL V V):=O (Below.refl _ _);obtain⟨bt,hbt⟩:=eX V.1.size;refine wp_alloc_blk f4 g4 h5 z bt hbt ?_;intro A1 kk bb ss;have PA1:Hid (bL V A1):=O (PV.o.trans (bb.mono PV.o.size));have TA1:Hid (Blk A1 bt 44 [.slice none 0 0]/\V.1.size<=bt):=O ⟨kk,by have:=PV.o.size;omega⟩;change K (Act.put _ (some 3) _) A1;apply F _ _ (fun _=>⟨PA1.o,trivial⟩);clear F K kk bb ss hbt;refine nm ?_;refine oD 0 fun K F=>?_;go_simp;refine(newC_any A1).mono ?_;rintro e A2 ⟨hb,c,mS,mE,rfl,hne,hs1,hs2,hm⟩;have PA2:Hid (bL V A2):=O (PA1.o.trans (hb.mono PA1.o.size));have CM:Hid (mS≠mE/\V.1.size<=mS/\V.1.size<=mE):=O ⟨hne,by have:=PA1.o.size;omega,by have:=PA1.o.size;omega⟩;have CA2:=O hm
  have TA2:=O (And.intro (TA1.o.1.below hb) TA1.o.2);apply F _ _ (fun _=>⟨PA2.o,trivial⟩);clear F K hb hne hs1 hs2 hm;refine oD 3 fun K F=>?_;go_simp;refine(HC.o A2 c mS mE (BV.o.trans (PA2.o.mono BV.o.size)) CM.o.1 CA2.o).mono ?_;rintro e A3 ⟨⟨ra,rc,rfl,hr,hl⟩,hk,hm⟩;have PA3:Hid (bL V A3):=O (hk.to_below PA2.o PA2.o.size CM.o.2.1 CM.o.2.2);have RA3:Hid (Roomy args.length rc/\StsL (fun q=>V.1.size<=q/\q≠bt) A3 ra 0 args):=O ⟨hr,StsL.weak (fun q hq=>by have h1:A2.1.size<=q:=hq;have:=PA2.o.size;have h2:=TA2.o.1.lt;exact⟨by omega,by omega⟩) hl⟩
  have TA3:=O (And.intro (TA2.o.1.kp hk (fun e=>by have h1:=CA2.o.s;obtain⟨_,h1⟩:=h1;have h2:=TA2.o.1;unfold Blk at h2;rw[e,h1]at h2;cases h2) (fun e=>by have h1:=CA2.o.e;obtain⟨_,h1⟩:=h1;have h2:=TA2.o.1;unfold Blk at h2;rw[e,h1]at h2;cases h2)) TA2.o.2);rw[HQ.o];apply F _ _ (fun _=>⟨PA3.o,trivial⟩);clear F K hk hm hr hl;refine oD 5 fun K F=>?_;refine wp_store_one (by kernel_rfl) (.tmp 3) (.tmp 7) z bt 0 44 (.slice ra C rc) _ z z z z TA3.o.1 (by decide) ?_;intro W9 k9 c9;have P9:Hid (bL V W9):=O (c9.below TA3.o.2 PA3.o);apply F _ _ (fun _=>⟨P9.o,trivial⟩);have K9:Hid (Blk W9 bt 44 [.slice ra C rc]):=O k9
  have R9:Hid (Roomy args.length rc/\StsL (fun q=>V.1.size<=q/\q≠bt) W9 ra 0 args):=O ⟨RA3.o.1,StsL.keep (fun b o v hb hv=>by rw[c9.cellF hb.2];exact hv) RA3.o.2⟩;clear F K k9 c9;simp only[Act.put];refine dn ?_;have T9:Hid (V.1.size<=bt):=O TA3.o.2;have HB9:=O (BV.o.trans (P9.o.mono BV.o.size));go_wp2_with fail;refine U.o _ _ ?_;clear U KK;go_wp2_with fail;go_ret;exact⟨HB9.o,bt,ra,rc,z,by have:=T9.o;have:=BV.o.size;omega,by rw[HQ.o];exact K9.o,R9.o.1,StsL.weak (fun q hq=>⟨by have:=hq.1.1;have:=BV.o.size;omega,hq.2⟩) (StsL.bound R9.o.2)⟩
structure Ko (own:World->Nat->Prop) (A B:World):Prop where
 size:A.1.size<=B.1.size
 keep:∀k,k<A.1.size->¬own A k->B.1[k]? =A.1[k]?
 own:∀k,own B k->own A k∨A.1.size<=k
structure Kk (own:World->Nat->Prop) (A B:World):Prop where
 size:A.1.size<=B.1.size
 keep:∀k,k<A.1.size->¬own A k->B.1[k]? =A.1[k]?
theorem Ko.kk{own:World->Nat->Prop}{A B:World}(h:Ko own A B):Kk own A B:=⟨h.size,h.keep⟩
abbrev Yv:=Int×St
def OwnAb(B:Nat)(own:World->Nat->Prop)(J:List Yv->World->Prop):Prop:=
 ∀pre A C row,J pre A->A.grownBy C row->(∀r,row=some r->B<=r/\∃o:Obj,A.1[r]? =some o/\o.isCells=false)->∀k,own C k->own A k
def SeqO(P:Program)(g:Nat)(lb:Array Value)(T0:Nat->Prop)(full:List Yv)(w0:World):Prop:=
 ∀ (l:Nat) (own:World->Nat->Prop) (J Jx:List Yv->World->Prop) (W:World),Below w0.1.size w0 W->
  (∀k,own W k->¬T0 k)->(∀pre A,J pre A->∀k,own A k->k<A.1.size/\(W.1.size<=k->∃o:Obj,A.1[k]? =some o/\o.isCells=true))->OwnAb W.1.size own J->OwnFrom W.1.size J->OwnFrom W.1.size Jx->
  (∀pre x cs A,J pre A->StL (fun c=>W.1.size<=c/\¬own A c) A cs x.2->pre++[x]<+:full->YieldAt Fence.wide 0 P l #[.int .i64 x.1,.agg cs.toArray] A fun e B=>
    (e= .returned (.bool true)/\J (pre++[x]) B/\Ko own A B)∨(e= .returned (.bool false)/\Jx (pre++[x]) B/\Kk own A B))->
  J [] W->CallsIn Fence.wide 0 P g (#[.func (.yield l) #[] #[]]++lb) W fun e B=> (∃v,e= .returned v)/\(J full B∨∃pre,Jx pre B)
def ownPostO(B:Nat)(own:World->Nat->Prop)(I:List Yv->World->Prop)(Ix:Code->List Yv->World->Prop)(xs:List Yv)(W:World):Exit->Act->World->Prop
 | .normal,_,W'=>KeepsFrom B W W'/\Ko own W W'/\I xs W'
 | .ret,_,W'=>KeepsFrom B W W'/\Kk own W W'/\Ix .ret xs W'
 | .exit id,_,W'=>KeepsFrom B W W'/\Kk own W W'/\Ix (.exit id) xs W'
 | .goto t,_,W'=>KeepsFrom B W W'/\Kk own W W'/\Ix (.goto t) xs W'
 | .panic _,_,_=>False
 | .outgrown,_,_=>False
theorem grown_below{A B:World}(h:bL A B):A.grownBy B none:=⟨h.os,h.tape,h.output,h.size,fun k hk _=>h.block k hk⟩
theorem wpIn_rangeFunc_O{P:Program}{g:Operand}{ps:Array Tmp}{assign body:Code}{Q:Exit->Act->World->Prop}{a:Act}{gf:Nat}{lb:Array Value}(hg:a.eval g= .func (.func gf) #[] lb)(eg:∀args w,(callFunc gf args).run P w= .ok (.enter gf args) w)
  {T0:Nat->Prop}{full:List Yv}(hseq:SeqO P gf lb T0 full w0)(hb0:Below w0.1.size w0 w)(hps:ps.size=2)
  (own:World->Nat->Prop)(I:List Yv->World->Prop)(Ix:Code->List Yv->World->Prop)(hI:OwnFrom w.1.size I)(hIx:∀c,OwnFrom w.1.size (Ix c))(h0:I [] w)
  (hT:∀k,own w k->¬T0 k)(hT0:∀k,T0 k->k<w.1.size)(hlt:∀pre A,I pre A->∀k,own A k->k<A.1.size/\(w.1.size<=k->∃o:Obj,A.1[k]? =some o/\o.isCells=true))(hown:OwnAb w.1.size own I)
  (Ax:Yv->List Value->Act->World->Prop)(hAx:∀x cs a',OwnFrom w.1.size (fun (_:Unit) W=>Ax x cs a' W))
  (hassign:∀ (l:Nat) (pre:List Yv) (x:Yv) (cs:List Value) (W:World) (K:Act->World->Prop),w.1.size<=W.1.size->I pre W->StL (fun c=>w.1.size<=c/\¬own W c) W cs x.2->(∀a' W',bL W W'->Ax x cs a' W'->K a' W')->
   assign.wpIn (Fence.wide.inRound l) 0 P (Exit.then K (fun _ _ _=>False)) {tmps:=(ps.zip #[.int .i64 x.1,.agg cs.toArray]).foldl (fun t (p,v)=>t.setIfInBounds p v) a.tmps,defers:=[]} W)
  (hbody:∀ (l:Nat) (pre:List Yv) (x:Yv) (cs:List Value) (a':Act) (W:World),w.1.size<=l->I pre W->Ax x cs a' W->pre++[x]<+:full->body.wpIn (Fence.wide.inRound l) 0 P (ownPostO w.1.size own I Ix (pre++[x]) W) a' W)
  (hdone:∀ (D:Nat) (W:World),w.1.size<=D->I full W->W.1[D]? =some (.deferred (some []))->Q .normal {a with defers:={target:= .collected D,args:= #[]}::a.defers} W)
  (hstop:∀ (D:Nat) (c:Code) (pre:List Yv) (W:World),w.1.size<=D->Ix c pre W->W.1[D]? =some (.deferred (some []))->c.wpIn Fence.wide 0 P Q {a with defers:={target:= .collected D,args:= #[]}::a.defers} W):
  (Code.rangeFunc g ps assign body).wpIn Fence.wide 0 P Q a w:=by
 refine wpIn_rangeFunc ?_;intro fn hfn;rw[show Fence.wide.round=none from rfl];obtain⟨rec,hrec⟩:∃rec:LoopState->Option Code->Loop,rec=fun st pe=> {state:=st,pending:=pe,fn,tmps:=a.tmps,params:=ps,assign,body,defers:=w.1.size}:=⟨_,z⟩;obtain⟨W1,hW1⟩:∃W1,(w.alloc (.deferred (some []))).alloc (.loop (rec .ready none))=W1:=⟨_,z⟩;have hL1:W1.1[w.1.size+1]? =some (.loop (rec .ready none)):=by rw[<-hW1];have:=World.alloc_heap_new (w.alloc (.deferred (some []))) (.loop (rec .ready none));rwa [World.size_alloc]at this
 have hK1:W1.1[w.1.size]? =some (.deferred (some [])):=by rw[<-hW1];exact(Below.heap_alloc _ _ _ (by simp)).trans (World.alloc_heap_new w _)
 have hI1:I [] W1:=by rw[<-hW1];exact hI.alloc _ (hI.alloc _ h0)
 have hbw:bL w W1:=by rw[<-hW1];exact(((Below.refl _ w).alloc (Nat.le_refl _) _).alloc (by simp) _)
 have hs1:W1.1.size=w.1.size+2:=by rw[<-hW1];simp
 have how1:∀k,own W1 k->own w k:=hown [] w W1 none h0 (grown_below hbw) (fun r e=>by cases e);refine⟨w.1.size+1,[{target:= .collected w.1.size,args:= #[]}],W1,{target:= .fn (.func gf) lb,args:= #[.func (.yield (w.1.size+1)) #[] #[]]},W1,gf, #[.func (.yield (w.1.size+1)) #[] #[]]++lb,W1,?_,?_,?_,?_,(fun h=>by cases h),?_⟩
 .rw[<-hW1,hrec];exact run_enterLoop_outer _ _ _ _ _
 .simp only[resolve,hg];simp[go_sem]
 .intro f' hf';trivial
 .simp[invoke,go_sem,eg]
 have hnw:∀ {A:World} {row:Option Nat},(∀r,row=some r->W1.1.size<=r/\∃o:Obj,A.1[r]? =some o/\o.isCells=false)->(∀r,row=some r->w.1.size<=r/\∃o:Obj,A.1[r]? =some o/\o.isCells=false):=fun hr r e=>by obtain⟨hB,o,ho,hw⟩:=hr r e;exact⟨by omega,o,ho,hw⟩
 have hkp:∀ {A B:World} {row:Option Nat} {k:Nat} {o:Obj},k<W1.1.size->A.grownBy B row->(∀r,row=some r->W1.1.size<=r/\∃o:Obj,A.1[r]? =some o/\o.isCells=false)->A.1[k]? =some o->B.1[k]? =some o:=fun hk hg' hr ho=>by refine(hg'.block _ (Array.getElem?_eq_some_iff.1 ho).1 (fun e=>?_)).trans ho;have:=(hr _ e.symm).1;omega
 refine(hseq (w.1.size+1) (fun A k=>own A k∨k=w.1.size+1)
   (fun pre W=>I pre W/\W.1[w.1.size+1]? =some (.loop (rec .ready none))/\W.1[w.1.size]? =some (.deferred (some [])))
   (fun pre W=>∃c,Ix c pre W/\W.1[w.1.size+1]? =some (.loop (rec .done (some c)))/\W.1[w.1.size]? =some (.deferred (some [])))
   W1 (hb0.trans (hbw.mono hb0.size)) ?_ ?_ ?_ ?_ ?_ ?_ ⟨hI1,hL1,hK1⟩).mono ?_
 .rintro k (hk|rfl) ht
  .exact hT k (how1 k hk) ht
  .have:=hT0 _ ht;omega
 .rintro pre A ⟨hi,hl,-⟩ k (hk|rfl)
  .exact⟨(hlt pre A hi k hk).1,fun h=> (hlt pre A hi k hk).2 (by omega)⟩
  .exact⟨(Array.getElem?_eq_some_iff.1 hl).1,fun h=>by omega⟩
 .rintro pre A C row ⟨hi,-,-⟩ hg' hr k (hk|rfl)
  .exact .inl (hown pre A C row hi hg' (hnw hr) k hk)
  .exact .inr z
 .exact fun s A B row hs hg' hr=>⟨hI s A B row hs.1 hg' (hnw hr),hkp (by omega) hg' hr hs.2.1,hkp (by omega) hg' hr hs.2.2⟩
 .rintro s A B row ⟨c,hc,hl,hk⟩ hg' hr;exact⟨c,hIx c s A B row hc hg' (hnw hr),hkp (by omega) hg' hr hl,hkp (by omega) hg' hr hk⟩
 .rintro pre x cs W ⟨hi,hl,hk⟩ hst hpre;have hlW:w.1.size+1<W.1.size:=(Array.getElem?_eq_some_iff.1 hl).1;have hy:=run_yield (P:=P) (args:= #[.int .i64 x.1,.agg cs.toArray]) hl (by rw[hrec];exact hps.symm);rw[hrec]at hy;refine⟨fn,_,assign,body,hy,roundIn_of_wpIn hfn (hassign _ pre x cs W _ (by omega) hi (hst.weak fun c hc=>⟨by omega,fun h=>hc.2 (.inl h)⟩) ?_)⟩;clear hy;intro a' Wa hba hax;have hia:I pre Wa:=hI pre W Wa none hi (grown_below hba) (fun r e=>by cases e);have hla:Wa.1[w.1.size+1]? =some (.loop (rec .ready none)):=(hba.block _ hlW).trans hl;have hka:Wa.1[w.1.size]? =some (.deferred (some [])):=(hba.block _ (by omega)).trans hk
  have hlt2:w.1.size+1<Wa.1.size:=(Array.getElem?_eq_some_iff.1 hla).1;have hoa:∀k,own Wa k->own W k:=hown pre W Wa none hi (grown_below hba) (fun r e=>by cases e);refine⟨_,run_beginRound hla (by rw[hrec]),?_⟩;obtain⟨Wc,hWc⟩:∃Wc,Wa.putObj (w.1.size+1) (.loop {rec .ready none with state:= .busy})=Wc:=⟨_,z⟩;have hWc':Wa.putObj (w.1.size+1) (.loop {state:= .busy,pending:=none,fn,tmps:=a.tmps,params:=ps,assign,body,defers:=w.1.size})=Wc:=by rw[<-hWc,hrec]
  have hgc:Wa.grownBy Wc (some (w.1.size+1)):=by rw[<-hWc];exact grownBy_putObj' _ _ _
  have hrc:∀r,some (w.1.size+1)=some r->w.1.size<=r/\∃o:Obj,Wa.1[r]? =some o/\o.isCells=false:=fun r e=>by cases e;exact⟨by omega,_,hla,z⟩
  have hlc:Wc.1[w.1.size+1]? =some (.loop {rec .ready none with state:= .busy}):=by rw[<-hWc];exact World.putObj_heap_same hlt2
  have hkc:Wc.1[w.1.size]? =some (.deferred (some [])):=by rw[<-hWc];exact(World.putObj_heap_other (by omega)).trans hka
  have hic:I pre Wc:=hI pre Wa Wc _ hia hgc hrc;have hoc:∀k,own Wc k->own Wa k:=hown pre Wa Wc _ hia hgc hrc;have haxc:Ax x cs a' Wc:=hAx x cs a' () Wa Wc _ hax hgc hrc;have hsc:Wc.1.size=Wa.1.size:=by rw[<-hWc];simp
  first|rw[hWc]|rw[hWc']
  refine wpIn_mono (hbody _ pre x cs a' Wc (by omega) hic haxc hpre) ?_;have fin:∀ (jump:Option Code) (W3:World),KeepsFrom w.1.size Wc W3->
     (Instr.endRound (w.1.size+1) jump).run P W3= .ok (.bool jump.isNone) (W3.putObj (w.1.size+1) (.loop (rec (if jump.isNone then .ready else .done) jump)))/\
     W3.1[w.1.size+1]? =some (.loop {rec .ready none with state:= .busy})/\
     (W3.putObj (w.1.size+1) (.loop (rec (if jump.isNone then .ready else .done) jump))).1[w.1.size+1]? =some (.loop (rec (if jump.isNone then .ready else .done) jump))/\
     (W3.putObj (w.1.size+1) (.loop (rec (if jump.isNone then .ready else .done) jump))).1[w.1.size]? =some (.deferred (some [])):=fun jump W3 hk3=>by
   have hl3:=hk3.same _ _ (by omega) hlc z;have:=run_endRound (P:=P) jump hl3;rw[hrec]at this ⊢;exact⟨this,by rw[hrec]at hl3;exact hl3,World.putObj_heap_same (Array.getElem?_eq_some_iff.1 hl3).1,(World.putObj_heap_other (by omega)).trans (hk3.same _ _ (Nat.le_refl _) hkc z)⟩
  have kk:∀ (W3:World) (o:Obj),Kk own Wc W3->Kk (fun A k=>own A k∨k=w.1.size+1) W (W3.putObj (w.1.size+1) o):=fun W3 o hko=>by
   refine⟨?_,?_⟩
   .have h1:=hba.size;have h2:=hko.size;have h3:(W3.putObj (w.1.size+1) o).1.size=W3.1.size:=by simp
    rw[h3];omega
   .intro k hk5 hno;have hne:k≠w.1.size+1:=fun e=>hno (.inr e);have hnw2:¬own W k:=fun e=>hno (.inl e);have h1:Wa.1[k]? =W.1[k]? :=hba.block k hk5;have h2:Wc.1[k]? =Wa.1[k]? :=hgc.block k (Nat.lt_of_lt_of_le hk5 hba.size) (fun e=>hne (by cases e;rfl));have h3:W3.1[k]? =Wc.1[k]? :=hko.keep k (by rw[hsc];exact Nat.lt_of_lt_of_le hk5 hba.size) (fun e=>hnw2 (hoa k (hoc k e)));exact(World.putObj_heap_other hne).trans (h3.trans (h2.trans h1))
  rintro e a3 W3 hp;cases e with
  |normal=>
   obtain⟨hk3,hko,hi3⟩:=hp;obtain⟨hr,hl3,hl4,hk4⟩:=fin none W3 hk3;have hkk:=kk W3 (.loop (rec .ready none)) hko.kk;refine⟨_,_,hr,.inl ⟨z,⟨hI.putObj _ hi3 (by omega) hl3 z,hl4,hk4⟩,hkk.size,hkk.keep,?_⟩⟩
   .rintro k (hk5|rfl)
    .have h1:own W3 k:=hown _ W3 _ _ hi3 (grownBy_putObj' W3 (w.1.size+1) _) (fun r e=>by cases e;exact⟨by omega,_,hl3,z⟩) k hk5;rcases hko.own k h1 with h2|h2
     .exact .inl (.inl (hoa k (hoc k h2)))
     .have:=hba.size;exact .inr (by omega)
    .exact .inl (.inr z)
  |ret=>
   obtain⟨hk3,hko,hi3⟩:=hp;obtain⟨hr,hl3,hl4,hk4⟩:=fin (some .ret) W3 hk3;exact⟨_,_,hr,.inr ⟨z,⟨.ret,(hIx _).putObj _ hi3 (by omega) hl3 z,hl4,hk4⟩,kk W3 _ hko⟩⟩
  |exit id=>
   obtain⟨hk3,hko,hi3⟩:=hp;obtain⟨hr,hl3,hl4,hk4⟩:=fin (some (.exit id)) W3 hk3;exact⟨_,_,hr,.inr ⟨z,⟨.exit id,(hIx _).putObj _ hi3 (by omega) hl3 z,hl4,hk4⟩,kk W3 _ hko⟩⟩
  |goto t=>
   obtain⟨hk3,hko,hi3⟩:=hp;obtain⟨hr,hl3,hl4,hk4⟩:=fin (some (.goto t)) W3 hk3;exact⟨_,_,hr,.inr ⟨z,⟨.goto t,(hIx _).putObj _ hi3 (by omega) hl3 z,hl4,hk4⟩,kk W3 _ hko⟩⟩
  |panic ch=>exact hp.elim
  |outgrown=>exact hp.elim
 .rintro e W2 ⟨⟨v,rfl⟩,(⟨hi,hl,hk⟩|⟨pre,c,hi,hl,hk⟩)⟩
  .exact⟨none,_,by have:=run_endLoop (P:=P) hl (by rw[hrec];simp);rw[hrec]at this;exact this,hdone _ _ (Nat.le_refl _) (hI.putObj _ hi (by omega) hl z) ((World.putObj_heap_other (by omega)).trans hk)⟩
  .exact⟨some c,_,by have:=run_endLoop (P:=P) hl (by rw[hrec];simp);rw[hrec]at this;exact this,hstop _ c pre _ (Nat.le_refl _) ((hIx c).putObj _ hi (by omega) hl z) ((World.putObj_heap_other (by omega)).trans hk)⟩
mutual
def wkS (d:Nat):St->List Yv
 | .mk k l c s t x y body els id sl ot lo=> ((d:Int),.mk k l c s t x y body els id sl ot lo)::(wkL (d+1) body++wkL (d+1) els)
def wkL (d:Nat):List St->List Yv
 | []=> []
 |s::r=>wkS d s++wkL d r
end
mutual
def St.cn:St->Nat
 | .mk _ _ _ _ _ _ _ body els _ _ _ _=>St.cns body+St.cns els+1
def St.cns:List St->Nat
 | []=>0
 |s::r=>s.cn+St.cns r
end
theorem wkL_app(d:Nat):∀ (l m:List St),wkL d (l++m)=wkL d l++wkL d m
 | [],m=>by simp[wkL]
 |s::l,m=>by rw[List.cons_append,wkL,wkL,wkL_app d l m,List.append_assoc]
theorem St.cns_mem:∀ {l:List St} {y:St},y∈l->y.cn<=St.cns l
 | [],_,h=>by cases h
 |x::l,y,h=>by
  unfold St.cns
  rcases List.mem_cons.1 h with rfl|h
  .omega
  .have:=St.cns_mem h
   omega
section
variable {P:Program} {ops:Array Oper} {Q:Exit→Act→World→Prop} {md:Region.Mode} {n fuel:Nat} {listed:Array Bool} {a:Act} {w:World}
theorem wpIn_of_wp{o:Oper}{K:Act->World->Prop}(h:o.wp P a w K Q):o.wpIn Fence.wide n P a w K Q:=by
 refine⟨fun _ _=>trivial,?_⟩;have G:o.semAt Fence.wide.round a.eval=execOp a.eval o:=Oper.semAt_none _ _;rw[G];unfold Oper.wp at h;generalize (execOp a.eval o).run P w=r at *;cases r with
 |ok x w'=>
  cases x<;>simp only[Oper.upon,Oper.uponIn]at h ⊢<;>
   first
    |exact h
    |exact⟨fun A=>by simp[Fence.wide]at A,callsIn_wide.2 h⟩
    |exact⟨fun A=>by simp[Fence.wide]at A,fun c cs _=>let ⟨v,w',r,s⟩:=h c cs;⟨v,w',r,stepsIn_wide.2 s⟩⟩
 |halt x w'=>cases x<;>simp only[Oper.upon,Oper.uponIn]at h ⊢<;>exact h
theorem yT(i:Nat){oi:Oper}{d:Option Tmp}(h:wpAnyIn Fence.wide n P md ops Q fuel (listed.setIfInBounds i true) (a.put d v) w)(hi:ops[i]? =some oi:=by rfl)(hd:oi.dst=d:=by(conv=>lhs;whnf)<;>rfl)
  (hb:(Region.noSelect ops&& (Region.free md ops listed i&& (Region.ready md ops listed).contains i))=true:=by kernel_rfl)
  (hQ:∀c a w,Q (.panic c) (a.put d v) w->Q (.panic c) a w:=by exact fun _ _ _ h=>h)(hw:Region.wanted oi (yielded ops a.tmps)=true:=by rfl)
  (hv:∀w,(execOp a.eval oi).run P w= .ok (.value v) w:=by intro W1;go_simp;first|with_reducible rfl|rw[if_neg (by omega)])(ha:∀w,oi.about P w a.eval=none:=by exact fun _=>z):wpAnyIn Fence.wide n P md ops Q (fuel+1) listed a w:=by
 subst hd;simp only[Bool.and_eq_true]at hb;exact wpAnyIn_take z hi hb.1 hb.2.1 hb.2.2 hQ ⟨.inl ⟨hw,hv⟩,ha⟩ h
theorem yO(i:Nat){o:Oper}(h:∀K:Act->World->Prop,(∀a' w',wpAnyIn Fence.wide n P md ops Q fuel (listed.setIfInBounds i true) a' w'->K a' w')->o.wpIn Fence.wide n P a w K Q)
  (hr:Region.ready md ops listed=[i]:=by kernel_rfl)(ho:ops[i]? =some o:=by rfl)(hg:o.guard=none:=by rfl):wpAnyIn Fence.wide n P md ops Q (fuel+1) listed a w:=by
 refine wpAnyIn_ready hr (by simp) (AllReadyIn.cons ho (fun K hK=>?_) AllReadyIn.nil);rw[if_pos (by simp[Region.wanted,hg])];exact h K hK
end
structure Wh (l:Nat) (own:World->Nat->Prop) (J Jx:List Yv->World->Prop) (full:List Yv) (B0:Nat):Prop where
 lt:∀pre A,J pre A->∀k,own A k->k<A.1.size/\(B0<=k->∃o:Obj,A.1[k]? =some o/\o.isCells=true)
 ab:OwnAb B0 own J
 hJ:OwnFrom B0 J
 hY:∀pre x cs A,J pre A->StL (fun c=>B0<=c/\¬own A c) A cs x.2->pre++[x]<+:full->YieldAt Fence.wide 0 Tryz.prog l #[.int .i64 x.1,.agg cs.toArray] A fun e B=>
  (e= .returned (.bool true)/\J (pre++[x]) B/\Ko own A B)∨(e= .returned (.bool false)/\Jx (pre++[x]) B/\Kk own A B)
structure Wi (own:World->Nat->Prop) (T0:Nat->Prop) (B0:Nat) (W0 A:World):Prop where
 t:∀k,T0 k->k<A.1.size/\¬own A k
 kp:∀k,T0 k->A.1[k]? =W0.1[k]?
 sz:B0<=A.1.size
section
variable {own:World→Nat→Prop} {T0:Nat→Prop} {B0:Nat} {W0 A B:World} {J:List Yv→World→Prop} {pre:List Yv}
theorem Wi.ko(h:Wi own T0 B0 W0 A)(g:Ko own A B):Wi own T0 B0 W0 B:=⟨fun k hk=>⟨Nat.lt_of_lt_of_le (h.t k hk).1 g.size,fun ho=>by
 rcases g.own k ho with h1|h1
 .exact(h.t k hk).2 h1
 .have:=(h.t k hk).1;omega⟩,fun k hk=> (g.keep k (h.t k hk).1 (h.t k hk).2).trans (h.kp k hk),Nat.le_trans h.sz g.size⟩
theorem Wi.below(h:Wi own T0 B0 W0 A)(g:bL A B)(ho:∀k,own B k->own A k):Wi own T0 B0 W0 B:=⟨fun k hk=>⟨Nat.lt_of_lt_of_le (h.t k hk).1 g.size,fun hh=> (h.t k hk).2 (ho k hh)⟩,fun k hk=> (g.block k (h.t k hk).1).trans (h.kp k hk),Nat.le_trans h.sz g.size⟩
theorem Wi.cellF(h:Wi own T0 B0 W0 A){o:Nat}(hb:T0 b)(hv:W0.cellF ⟨b,o,none⟩=some v):A.cellF ⟨b,o,none⟩=some v:=(World.cellF_of (h.kp b hb) o).trans hv
end
def WkR(own:World->Nat->Prop)(J Jx:List Yv->World->Prop)(T0:Nat->Prop)(B0:Nat)(W0:World)(out:List Yv)(e:Ending)(B:World):Prop:=
 (e= .returned (.bool true)/\J out B/\Wi own T0 B0 W0 B)∨(e= .returned (.bool false)/\∃q,Jx q B)
theorem walk_step{l:Nat}{own:World->Nat->Prop}{J Jx:List Yv->World->Prop}{full:List Yv}{B0:Nat}{T0:Nat->Prop}{W0:World}(H:Wh l own J Jx full B0)(body:List St)
  (IH:∀body2:List St,SizeOf.sizeOf body2<SizeOf.sizeOf body->∀ (pre:List Yv) (d:Nat) (A:World) (a:Option Addr) (cap:Nat),Roomy body2.length cap->StsL T0 W0 a 0 body2->St.szs body2->pre++wkL d body2<+:full->d+St.cns body2<=100000->J pre A->Wi own T0 B0 W0 A->
   Calls Tryz.prog 127 #[.slice a body2.length cap,.int .i64 d,.func (.yield l) #[] #[]] A (WkR own J Jx T0 B0 W0 (pre++wkL d body2)))
  (pre:List Yv)(d:Nat)(A:World)(a:Option Addr)(cap:Nat)(hr:Roomy body.length cap)(ht:StsL T0 W0 a 0 body)(hz:St.szs body)(hp:pre++wkL d body<+:full)(hd:d+St.cns body<=100000)(hJ:J pre A)(hi:Wi own T0 B0 W0 A):
  Calls Tryz.prog 127 #[.slice a body.length cap,.int .i64 d,.func (.yield l) #[] #[]] A (WkR own J Jx T0 B0 W0 (pre++wkL d body)):=by
 have HH:=O H;have HI:=O IH;have HT:=O ht;have HZ:=O hz;have HP:=O hp;have HD:=O hd;have HJ0:=O (And.intro hJ hi);obtain⟨C,hN⟩:=eX body.length;rw[hN]at hr ⊢;have Q:=O hN;have HR:=O hr;clear hN hr H IH ht hz hp hd hJ hi;have h4:Tryz.prog.follows .mixedOrders=true:=by kernel_rfl
 go_enter Tryz.func127,Tryz.ntmps127;refine wk fun KK U=>?_;go_wp2_with fail;refine U.o _ _ ?_;clear U KK;refine wk fun KK a2=>?_;go_wp2_with fail;go_loopg [10] C (fun x iv wr=>∃i,i<=C/\x=C-i/\iv=I i/\Hid (J (pre++wkL d (body.take i)) wr/\Wi own T0 B0 W0 wr));case atStart=>exact⟨0,Nat.zero_le _,z,z,O (by simpa [wkL]using HJ0.o)⟩
 case round=>
  clear HJ0;obtain⟨i,hi,rfl,rfl,E⟩:=hrel;by_cases a5:i<C
  .have h9:(i:Int)< (C:Int):=by omega
   have h8:(0:Int)<=(i:Int):=by omega
   have f4:Hid (wrap64 ((i:Int)+1)=((i+1:Nat):Int)):=O (by have h1:=HR.o.1;have h2:=HR.o.2;have:=IntWalk.wrap64_in ((i:Int)+1) (by omega);rw[this];omega)
   obtain⟨b2,b8,ds,rfl,hb2,e3,a3⟩:=StsL.atF HT.o i (by rw[Q.o];exact a5);rw[Nat.zero_add]at e3;have d2:body.getD i default∈body:=by rw[List.getD_eq_getElem?_getD,List.getElem?_eq_getElem (by rw[Q.o];exact a5)];exact List.getElem_mem _
   have d6:body.take (i+1)=body.take i++[body.getD i default]:=by rw[List.take_succ_eq_append_getElem (by rw[Q.o];exact a5),List.getD_eq_getElem?_getD,List.getElem?_eq_getElem (by rw[Q.o];exact a5)];rfl
   have d7:body=body.take i++body.getD i default::body.drop (i+1):=by have h1:=(List.take_append_drop i body).symm;rw[List.drop_eq_getElem_cons (by rw[Q.o];exact a5)]at h1;rw[List.getD_eq_getElem?_getD,List.getElem?_eq_getElem (by rw[Q.o];exact a5)];exact h1
   have hsm:=List.sizeOf_lt_of_mem d2;have hcm:=St.cns_mem d2;have hsz:=St.szs_mem HZ.o d2;have hpf:=HP.o;rw[d7,wkL_app,wkL]at hpf;generalize hy:body.getD i default=y at *;clear hy d7;have hsz0:=hsz;have a3':=a3;obtain⟨k0,l0,c0,s0,t0,x0,y0,bod,els,id0,sl0,ot0,lo0⟩:=y;unfold St.szl at hsz;unfold St.cn at hcm;rw[wkS]at hpf;unfold StL at a3;obtain⟨cx,cy,ab,ae,capb,cape,hcs,hX,hY,hrb,hlb,hre,hle⟩:=a3;have hat:ds=stC k0 l0 c0 s0 t0 cx cy (.slice ab bod.length capb) (.slice ae els.length cape) id0 sl0 ot0 lo0:=hcs;have hst:=stC_at hat hX.cells.1 hY.cells.1;have h19:=hst.2.2.2.2.2.1;have h20:=hst.2.2.2.2.2.2.1;clear hst hat hcs hX hY
   obtain⟨s,hs⟩:∃s,St.mk k0 l0 c0 s0 t0 x0 y0 bod els id0 sl0 ot0 lo0=s:=⟨_,z⟩;have hsz1:SizeOf.sizeOf bod<SizeOf.sizeOf body/\SizeOf.sizeOf els<SizeOf.sizeOf body:=by simp only[St.mk.sizeOf_spec]at hsm;constructor<;>omega
   have hns:wkL d (body.take (i+1))=wkL d (body.take i)++(((d:Int),St.mk k0 l0 c0 s0 t0 x0 y0 bod els id0 sl0 ot0 lo0)::(wkL (d+1) bod++wkL (d+1) els)):=by rw[d6,wkL_app,wkL,wkL,wkS];simp
   rw[hs]at hpf a3' hsz0 d6 hns;clear hs;obtain⟨NB,hNB⟩:=eX bod.length;obtain⟨NE,hNE⟩:=eX els.length;rw[hNB]at h19;rw[hNE]at h20;have HW:Hid (∀W,Wi own T0 B0 W0 W->(W.cell? ⟨b2,b8+i*25+19,none⟩=some (.slice ab NB capb)/\W.cell? ⟨b2,b8+i*25+20,none⟩=some (.slice ae NE cape))/\W.rangeF b2 (b8+i*25) ds/\StL (fun _=>True) W ds s):=O fun W hw=> ⟨⟨World.cellF_cell (hw.cellF hb2 (e3 19 _ h19)),World.cellF_cell (hw.cellF hb2 (e3 20 _ h20))⟩,fun t v hv=>hw.cellF hb2 (e3 t v hv),(a3'.keep fun b o v hb hv=>hw.cellF hb hv).weak fun _ _=>trivial⟩;have HZS:=O hsz0;obtain⟨p1,hp1⟩:=eX (pre++wkL d (body.take i))
   have HP1:Hid (p1++[((d:Int),s)]<+:full):=O (List.IsPrefix.trans ⟨(wkL (d+1) bod++wkL (d+1) els)++wkL d (body.drop (i+1)),by rw[<-hp1];simp⟩ hpf);have HP2:Hid (p1++[((d:Int),s)]++wkL (d+1) bod<+:full):=O (List.IsPrefix.trans ⟨wkL (d+1) els++wkL d (body.drop (i+1)),by rw[<-hp1];simp⟩ hpf);have HP3:Hid (p1++[((d:Int),s)]++wkL (d+1) bod++wkL (d+1) els<+:full):=O (List.IsPrefix.trans ⟨wkL d (body.drop (i+1)),by rw[<-hp1];simp⟩ hpf);have HNX:Hid (p1++[((d:Int),s)]++wkL (d+1) bod++wkL (d+1) els=pre++wkL d (body.take (i+1))):=O (by rw[hns,<-hp1];simp)
   clear hns;have HB1:Hid (∀W,J (p1++[((d:Int),s)]) W->Wi own T0 B0 W0 W->Calls Tryz.prog 127 #[.slice ab NB capb,.int .i64 ((d:Int)+1),.func (.yield l) #[] #[]] W (WkR own J Jx T0 B0 W0 (p1++[((d:Int),s)]++wkL (d+1) bod))):=O fun W h1 h2=>by have:=HI.o bod hsz1.1 _ (d+1) W ab capb hrb hlb hsz.2.2.1 HP2.o (by have:=HD.o;omega) h1 h2;rw[hNB]at this;exact this
   have HB2:Hid (∀W,J (p1++[((d:Int),s)]++wkL (d+1) bod) W->Wi own T0 B0 W0 W->Calls Tryz.prog 127 #[.slice ae NE cape,.int .i64 ((d:Int)+1),.func (.yield l) #[] #[]] W (WkR own J Jx T0 B0 W0 (p1++[((d:Int),s)]++wkL (d+1) bod++wkL (d+1) els))):=O fun W h1 h2=>by have:=HI.o els hsz1.2 _ (d+1) W ae cape hre hle hsz.2.2.2 HP3.o (by have:=HD.o;omega) h1 h2;rw[hNE]at this;exact this
   rw[hp1]at E;have hd0:(0:Int)<=(d:Int):=by omega
   have hd1:(d:Int)+1<=1000000:=by have:=HD.o;omega
   clear hsz hsz0 hsz1 hcm hsm hpf a3' hrb hlb hre hle h19 h20 e3 hb2 hNB hNE d2 d6;obtain⟨V,hV⟩:=eX wr.drew;have EV:Hid (J p1 V/\Wi own T0 B0 W0 V):=O (by rw[<-hV];have hb:bL wr wr.drew:=(Below.refl _ _).drew;exact⟨HH.o.hJ _ _ _ none E.o.1 (grown_below hb) (fun r e=>by cases e),E.o.2.below hb (HH.o.ab _ _ _ none E.o.1 (grown_below hb) (fun r e=>by cases e))⟩)
   clear E;go_wp2_with fail;refine(wpIn_wide (n:=0)).1 ?_;refine wpIn_region_any h4 ?_;change wpAnyIn _ _ _ _ _ _ _ _ _ wr.drew;rw[hV];clear hV;refine yT 0 ?_;refine yT 1 ?_;refine yT 3 ?_;refine yT 4 ?_;simp only[Act.put,List.setIfInBounds_toArray,List.set_cons_zero,List.set_cons_succ];refine yT 5 ?_;simp only[Act.put,List.setIfInBounds_toArray,List.set_cons_zero,List.set_cons_succ];refine yO 2 fun K F=>?_;refine wpIn_of_wp ?_;go_simp;refine(newC_any V).mono ?_;rintro e N1 ⟨hb,c,mS,mE,rfl,hne,hs1,hs2,hm⟩;have EN:Hid (bL V N1/\V.1.size<=mS/\V.1.size<=mE/\mS≠mE):=O ⟨hb,hs1,hs2,hne⟩;have CN:=O hm;apply F;clear F K hb hne hs1 hs2 hm;refine yO 6 fun K F=>?_;refine wpIn_of_wp ?_;go_simp
   have hA1:CsA N1 c mS mE #[] b2 (b8+i*25) ds s:=by have h1:=HW.o V EV.o.2;exact⟨CN.o,EN.o.2.2.2,fun t v hv=>below_cell EN.o.1 _ _ _ (h1.2.1 t v hv),h1.2.2.keep fun b o v _ hv=>below_cell EN.o.1 b o v hv,KeyS.nil⟩
   refine(cst_all _ s (Nat.lt_succ_self _) HZS.o hA1).mono ?_;clear hA1;rintro e N2 ⟨⟨cs,rfl,hcs⟩,hk,hm⟩;have hb2:bL V N2:=hk.to_below EN.o.1 EN.o.1.size EN.o.2.1 EN.o.2.2.1;have ho2:=HH.o.ab _ _ _ none EV.o.1 (grown_below hb2) (fun r e=>by cases e);have hj2:=HH.o.hJ _ _ _ none EV.o.1 (grown_below hb2) (fun r e=>by cases e);have hw2:=O (EV.o.2.below hb2 ho2);obtain⟨fn,tmps,asg,bd,hy,hR⟩:=HH.o.hY p1 ((d:Int),s) cs N2 hj2 (hcs.weak fun c hc=>by have h1:N1.1.size<=c:=hc;have h2:=EN.o.1.size;have h3:=EV.o.2.sz;exact⟨by omega,fun ho=>by have:=(HH.o.lt _ _ EV.o.1 _ (ho2 _ ho)).1;omega⟩) HP1.o
   apply F;clear F K hcs hk hm hb2 ho2 hj2 CN EN;refine yO 7 fun K F=>?_;refine⟨fun _ _=>trivial,?_⟩;go_simp;refine⟨z,?_⟩;refine hR.mono ?_;clear hR hy;rintro e W3 (⟨rfl,hj3,hk3⟩|⟨rfl,hjx,-⟩)
   .have E3:Hid (J (p1++[((d:Int),s)]) W3/\Wi own T0 B0 W0 W3):=O ⟨hj3,hw2.o.ko hk3⟩;apply F;clear F K hj3 hk3 hw2 EV;refine yT 8 ?_;simp only[Act.put,List.setIfInBounds_toArray,List.set_cons_zero,List.set_cons_succ];refine wpAnyIn_done (by kernel_rfl) ?_ _;have c19:=(HW.o W3 E3.o.2).1.1;go_wp2_with fail;refine(HB1.o W3 E3.o.1 E3.o.2).mono ?_;clear c19;rintro e W4 (⟨rfl,hj4,hi4⟩|⟨rfl,q,hq⟩)
    .have E4:Hid (J (p1++[((d:Int),s)]++wkL (d+1) bod) W4/\Wi own T0 B0 W0 W4):=O ⟨hj4,hi4⟩;clear hj4 hi4 E3;have c20:=(HW.o W4 E4.o.2).1.2;go_wp2_with fail;refine(HB2.o W4 E4.o.1 E4.o.2).mono ?_;clear c20;rintro e W5 (⟨rfl,hj5,hi5⟩|⟨rfl,q,hq⟩)
     .have E5:Hid (J (pre++wkL d (body.take (i+1))) W5/\Wi own T0 B0 W0 W5):=O ⟨by rw[<-HNX.o];exact hj5,hi5⟩;clear hj5 hi5 E4;go_wp2_with fail;go_roundg (C- (i+1));case measure=>omega
      case rel=>exact⟨i+1,by omega,z,congrArg (Value.int .i64) f4.o,E5⟩
     .go_wp2_with fail;go_ret;exact .inr ⟨z,q,hq⟩
    .go_wp2_with fail;go_ret;exact .inr ⟨z,q,hq⟩
   .apply F;clear F K hw2 EV;refine yT 8 ?_;simp only[Act.put,List.setIfInBounds_toArray,List.set_cons_zero,List.set_cons_succ];refine wpAnyIn_done (by kernel_rfl) ?_ _;go_wp2_with fail;go_ret;exact .inr ⟨z,_,hjx⟩
  .obtain rfl:i=C:=by omega
   have i2:¬ (i:Int)< (i:Int):=by omega
   have E5:Hid (J (pre++wkL d body) wr/\Wi own T0 B0 W0 wr):=O (by have h:=E.o;rwa [List.take_of_length_le (by rw[Q.o];exact Nat.le_refl _)]at h)
   clear E;go_wp2_with fail;refine a2.o _ _ ?_;go_wp2_with fail;go_ret;exact .inl ⟨z,E5.o⟩
theorem walk_all{l:Nat}{own:World->Nat->Prop}{J Jx:List Yv->World->Prop}{full:List Yv}{B0:Nat}{T0:Nat->Prop}{W0:World}(H:Wh l own J Jx full B0):∀ (m:Nat) (body:List St),SizeOf.sizeOf body<m->
  ∀ (pre:List Yv) (d:Nat) (A:World) (a:Option Addr) (cap:Nat),Roomy body.length cap->StsL T0 W0 a 0 body->St.szs body->pre++wkL d body<+:full->d+St.cns body<=100000->J pre A->Wi own T0 B0 W0 A->
   Calls Tryz.prog 127 #[.slice a body.length cap,.int .i64 d,.func (.yield l) #[] #[]] A (WkR own J Jx T0 B0 W0 (pre++wkL d body))
 |0,_,h=>absurd h (Nat.not_lt_zero _)
 |m+1,body,h=>walk_step H body fun body2 h2=>walk_all H m body2 (by omega)
theorem stmts_seq{w':World}{bt:Nat}{cap:Nat}{l:List St}(_hw:w.1.size<=bt)(hk:Blk w' bt 44 [.slice a l.length cap])(hr:Roomy l.length cap)(ht:StsL (fun c=>w.1.size<=c/\c<w'.1.size) w' a 0 l)(hz:St.szs l)(hn:St.cns l<=90000):
  SeqO Tryz.prog 126 #[Pt bt] (fun k=>w.1.size<=k/\k<w'.1.size) (wkL 1 l) w':=by
 intro ln own J Jx W hW hT hlt hab hJ hJx hY h0;have hbt:W.cell? ⟨bt,0,none⟩=some (.slice a l.length cap):=by rw[(hk.below hW).cell];rfl
 have H:Wh ln own J Jx (wkL 1 l) W.1.size:=⟨hlt,hab,hJ,hY⟩;have hi:Wi own (fun k=>w.1.size<=k/\k<w'.1.size) W.1.size w' W:=⟨fun k hk=>⟨Nat.lt_of_lt_of_le hk.2 hW.size,fun ho=>hT k ho hk⟩,fun k hk=>hW.block k hk.2,Nat.le_refl _⟩;have hc:=walk_all H _ l (Nat.lt_succ_self _) [] 1 W a cap hr ht hz (List.prefix_rfl) (by omega) h0 hi;have HC:=O hc;clear hY h0 H hi hc hlt hab hJ hJx hT;show CallsIn Fence.wide 0 Tryz.prog 126 #[.func (.yield ln) #[] #[],Pt bt] W _;refine callsIn_wide.2 ?_;obtain⟨C,hN⟩:=eX l.length;have hcc:=HC.o;rw[hN]at hbt hcc;clear HC hN hk hr ht;go_enter Tryz.func126,Tryz.ntmps126;go_wp2_with fail;refine hcc.mono ?_;clear hcc hbt;rintro e W2 (⟨rfl,hj,-⟩|⟨rfl,q,hq⟩)
 .go_wp2_with fail;go_end0;exact⟨⟨_,z⟩,.inl hj⟩
 .go_wp2_with fail;go_end0;exact⟨⟨_,z⟩,.inr ⟨q,hq⟩⟩
end Go.Proofs.YtgppcdfgdaggjaaGreatDoor
