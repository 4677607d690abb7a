/- A part of the proof of CheckTakes. -/
import Derived.ChangeMaps5
import Derived.ChangeSame
import Derived.Test.YtfpjlkdklgokiaaGreatRows
import Derived.Test.YtfpjlkdklgokiaaGreatZL
namespace Go.Proofs.YtfpjlkdklgokiaaGreat
set_option maxRecDepth 100000
set_option maxHeartbeats 40000000
open Go.RowKit
open Go.Proofs.Tryz
variable {n g k gp gd c gl i id b s r cb mb fb cd h N m fuel j ct p B cap sz gr z gt x aL:Nat} {v c1 c2 c3 c0 c5 c4:Value} {w' W:World} {A D T:Option Addr} {a:Act} {ids q fl l rest:List Nat} {xs fs:List Value} {o oi:Oper} {listed:Array Bool} {P:Program} {e t:TypeId} {args cs' buf:Array Value} {tm:Bool}
section
open Go.ChangeAt Go.ChangeShapes Go.WideShapes
section
variable {H:Type} {enc:TypeId×Value->H} {P:Program}
theorem qC (hl:laidOutB P=true) {W':World} {sp:Nat->Bool}:∀{ts:List TypeId} {vs:List Value} {ds:List (DataW H)} {ps:List MemPlace},
 (∀t∈ts,P.readableRec t=true/\t<P.types.size)->DataW.TrodAll enc P W 0 (λ_=>true) true ts vs ds ps->
 (∀x∈ps,W.sameAt W' x)->(∀x∈ps,sp x.block=true)->DataW.TrodAll enc P W' 0 sp true ts vs ds ps
 | [],_,_,_,_,h,_,_=>by
  obtain⟨rfl,rfl,rfl⟩:=trodAll_nil h;exact trodAll_mk0
 | t::ts,_,_,_,hr,h,hs,hp=>by
  obtain⟨v,vs1,d,ds1,a,b,rfl,rfl,rfl,h1,h2⟩:=trodAll_cons h;refine⟨a,b,WideElems.Trod_stays hl (hr t (by simp)).1 (hr t (by simp)).2 h1 (λx hx=>hs x (by simp[hx])) (λx hx=>hp x (by simp[hx])),?_,rfl⟩;exact qC hl (λt' ht'=>hr t' (by simp[ht'])) h2 (λx hx=>hs x (by simp[hx])) (λx hx=>hp x (by simp[hx]))
theorem Pn {f:Func} {s:ChangeSpec} {apart fresh handsOn:Bool} {W':World} {ds:List (DataW H)} {before:List MemPlace} {TB:TypeId}
 (hl:laidOutB P=true) (hr:∀t∈f.params.toList,P.readableRec t=true/\t<P.types.size) (hB:P.underlying TB=some .bool) (hrt:f.resultTypes=#[TB]) (hv:s.vars=[])
 (hW:DataW.Whole enc P f.params.toList s.vars apart W args.toList ds [] before)
 (hfn:s.fn H (ds++[])={results:=[.lit (.bool true)],args:=ds}) (hb:zB W W'):
 s.post enc P f apart fresh handsOn false W args (.bool true) W':=by
 have hlt:∀p∈before,p.block<W.heap.size:=λp hp=>hW.lt p hp;have hold:∀p∈before,(λb=>decide (b<W.heap.size)) p.block=true:=λp hp=>by simpa using hlt p hp
 have Uh:=hW;obtain⟨p,q,hA,hV,rfl,_,_⟩:=hW;rw[hv] at hV;obtain⟨_,rfl⟩:=trodVars_none hV;have hres:∀(b:Nat) (sp:Nat->Bool) (hd:Bool),DataW.TrodAll enc P W' b sp hd f.resultTypes.toList ((Value.bool true).resultList f.resultTypes.size) (s.fn H (ds++[])).results []:=λb sp hd=>by
  rw[hfn,hrt];exact trodAll_mk1 (shut_bool hB true)
 refine⟨ds,[],_,[],p,[],Uh,hres _ _ _,?_,?_,World.keptBut_mono (λx hx=>⟨hx,?_⟩) (hb.frame (· ∈p++[])),λh=>by cases h⟩
 ·rw[hfn];exact qC hl hr hA (λx hx=>hb.same (hlt x (by simp[hx]))) (λx hx=>hold x (by simp[hx]))
 ·rw[hfn,hv];exact rfl
 ·simp only[za7] at hx;exact Or.inr (Or.inl hx)
end
end
section
open Go.ChangeAt Go.ChangeShapes Go.Deep Go.WideShapes
theorem Tryz.ownC:ownKnob prog.godebug=none:=by kernel_rfl
theorem Tryz.Pq:laidOutB prog=true:=by kernel_rfl
theorem DF {H:Type} {enc:TypeId×Value->H} {w:World} {x:DataW H×List MemPlace} (h:DataW.trod enc prog w 0 (λ_=>true) true fuel 23 [v]=some x) (hs:Small prog 23 x.1):
 ∃(A:Option Addr) (c:Nat) (l:List Bool),v=.slice A l.length c/\Reads (λb=>b<w.heap.size) w 1 A l.length (l.map .bool)/\l.length<=140737488351232:=by
 have c1:prog.cellsOf 4=1:=by kernel_rfl
 rcases open_slice underlying23 h with⟨hcs,_⟩ | ⟨a,len,cap,m,n',D,Pl,hcs,_,hl,hm,z_,hx2,hc⟩
 ·obtain rfl:v=_:=by simpa using hcs
  exact⟨none,0,[],rfl,Reads.none_,by simp⟩
 ·obtain rfl:v=_:=by simpa using hcs
  have hlm:len<=m:=by rw[z_];split<;>omega
  rw[hx2] at hs;have hsz:=lu underlying23 hs;rw[show prog.bytesOf 4=1 by kernel_rfl] at hsz;simp only[zM,List.length_range] at hsz;obtain⟨S,hS⟩:=choose_lt (α:=Bool) (n:=len) (p:=λi s=>w.cell? (a.add i)=some (.bool s)) (λi hi=>by
   obtain⟨cs',h1,h2⟩:=hc i (by omega);rw[c1,Nat.mul_one] at h1;obtain⟨z,rfl,_⟩:=DataW.trod_bool underlying4 h2;exact⟨z,cell_of_cells?_one h1⟩)
  refine⟨some a,cap,(List.range len).map S,by simp,⟨by simp,λhn=>?_⟩,by simp;omega⟩;simp at hn;obtain⟨b,off,spot⟩:=a;have k0:=hS 0 hn;have hspot:spot=none:=by simpa[Addr.add] using World.cell?_spot k0
  subst hspot;refine⟨b,off,rfl,World.block_lt_of_cell? w _ k0,World.block_lt_of_cell? w _ k0,λj u hu=>?_⟩;have hj:j<len:=by
   have:=(zad.1 hu).1;simpa using this
  have e1:(⟨b,off,none⟩:Addr).add j=⟨b,off+j,none⟩:=by cases j<;>simp[Addr.add]
  rw[<-e1,hS j hj];rw[<-hu];simp;rw[zbm hj];rfl
theorem Ar {H:Type} {enc:TypeId×Value->H} {w:World} {cs:List Value} {x:DataW H×List MemPlace} (h:DataW.trod enc prog w 0 (λ_=>true) true fuel 26 cs=some x):
 ∃m:Sp.Ms,cs=(aJ m).toList/\m.count<18446744073709551616/\m.life<18446744073709551616:=by
 obtain⟨hl,ys,n,hx,hf⟩:=l_ underlying26 h;rw[show prog.cellsOf 26=5 by kernel_rfl] at hl
 match cs,hl with
 | [v0,v1,v2,v3,v4],_=>
  obtain⟨y0,_,_,h0⟩:=hf 0 _ rfl;obtain⟨y1,_,_,h1⟩:=hf 1 _ rfl;obtain⟨y2,_,_,h2⟩:=hf 2 _ rfl;obtain⟨y3,_,_,h3⟩:=hf 3 _ rfl;obtain⟨y4,_,_,h4⟩:=hf 4 _ rfl;have Ry:prog.cellsOf 24=1:=by kernel_rfl
  have cbo:prog.cellsOf 4=1:=by kernel_rfl
  replace h0:DataW.trod enc prog w 0 (λ_=>true) true n 24 [v0]=some y0:=by rw[<-h0];show _=DataW.trod _ _ _ _ _ _ _ _ (List.take (prog.cellsOf 24) _);rw[Ry];rfl
  replace h1:DataW.trod enc prog w 0 (λ_=>true) true n 24 [v1]=some y1:=by rw[<-h1];show _=DataW.trod _ _ _ _ _ _ _ _ (List.take (prog.cellsOf 24) _);rw[Ry];rfl
  replace h2:DataW.trod enc prog w 0 (λ_=>true) true n 24 [v2]=some y2:=by rw[<-h2];show _=DataW.trod _ _ _ _ _ _ _ _ (List.take (prog.cellsOf 24) _);rw[Ry];rfl
  replace h3:DataW.trod enc prog w 0 (λ_=>true) true n 24 [v3]=some y3:=by rw[<-h3];show _=DataW.trod _ _ _ _ _ _ _ _ (List.take (prog.cellsOf 24) _);rw[Ry];rfl
  replace h4:DataW.trod enc prog w 0 (λ_=>true) true n 4 [v4]=some y4:=by rw[<-h4];show _=DataW.trod _ _ _ _ _ _ _ _ (List.take (prog.cellsOf 4) _);rw[cbo];rfl
  obtain⟨a,e0,_,w0⟩:=DataW.trod_int underlying24 h0;obtain⟨b,e1,_,w1⟩:=DataW.trod_int underlying24 h1;obtain⟨c,e2,_,w2⟩:=DataW.trod_int underlying24 h2;obtain⟨d,e3,_,w3⟩:=DataW.trod_int underlying24 h3;obtain⟨bo,e4,_⟩:=DataW.trod_bool underlying4 h4;simp at e0 e1 e2 e3 e4;subst e0 e1 e2 e3 e4;obtain⟨a,rfl,q0⟩:=ow w0;obtain⟨b,rfl,q1⟩:=ow w1;obtain⟨c,rfl,q2⟩:=ow w2;obtain⟨d,rfl,q3⟩:=ow w3;exact⟨⟨a,b,c,d,bo⟩,rfl,q0,q1⟩
theorem Cy (os:Os) (started:os.Started) (H:Type) (enc:TypeId×Value->H):
 ReturnsInHanded {} checked os 3 .any (Rows.checkTakesSpec.pre6 enc prog f3 Rows.checkTakesRow.domain false) (Rows.checkTakesSpec.post enc prog f3 false true false false):=by
 refine returnsInHanded_of_change_sized (C:=checked) Tryz.ownC started (by kernel_rfl) func3
  (ChangeSpec.witness6 (enc:=enc) (C:=checked) false ⟨#[],#[.slice none 0 0,.slice none 0 0,.agg #[.int .u64 0,.int .u64 0,.int .u64 0,.int .u64 0,.bool false],.bool false],[]⟩ 8 (by kernel_rfl) (by kernel_rfl) (by kernel_rfl) (by kernel_rfl)) ?_
 intro W base args ds gs before Vg hW _ hsz0 _;have hval:∀(j:Nat) t v,f3.params[j]? =some t->args[j]? =some v->Value.okWide prog W .any base t v:=Vg;have hsz:(DataW.weightsEach prog (f3.params.toList++Rows.checkTakesSpec.plain.varTypes prog) (ds++gs)).all (· <=reachBytes)=true:=hsz0;have Uh:=hW;obtain⟨p,q,Ae,hV,rfl,hfz,hnd⟩:=hW;have hA:DataW.TrodAll enc prog W 0 (λ_=>true) true f3.params.toList args.toList ds p:=Ae;rw[params3] at hA hval hsz;obtain⟨v0,v1,v2,v3,d0,d1,d2,d3,p0,p1,p2,p3,rfl,rfl,rfl,h0,h1,h2,h3⟩:=trodAll_four hA;obtain⟨rfl,rfl⟩:=trodVars_none hV;obtain⟨a0,l0,k0,rfl⟩:=okWide_slice underlying22 (hval 0 22 v0 rfl rfl);obtain⟨a1,l1,k1,rfl⟩:=okWide_slice underlying23 (hval 1 23 v1 rfl rfl);obtain⟨Ru,rfl,_⟩:=okWide_struct underlying26 (hval 2 26 v2 rfl rfl);obtain⟨clean,rfl,rfl,rfl⟩:=open_bool underlying4 (hval 3 4 v3 rfl rfl) h3;obtain⟨n0,h0'⟩:=h0;obtain⟨n1,h1'⟩:=h1;obtain⟨n2,h2'⟩:=h2;obtain⟨A,c,l,hv,hK,hl,hok,hb⟩:=DK (v:=.slice a0 l0 k0) h0' (Bt hsz (j:=0) rfl rfl);obtain⟨Ao,co,bs,TK,vF,hbl⟩:=DF (v:=.slice a1 l1 k1) h1' (Bt hsz (j:=1) rfl rfl);obtain⟨m,hcs2,q0,q1⟩:=Ar h2';obtain⟨l2⟩:=Ru;obtain rfl:l2=_:=hcs2;clear Ae Vg;injection hv with e1 e2 e3;subst e1 e2 e3;injection TK with e1 e2 e3;subst e1 e2 e3;refine(Fa a0 k0 l (by omega) hok hb W hK a1 k1 bs vF (by omega) m q0 q1 clean).mono λe W' ⟨he,hb⟩=>?_;subst he;exact⟨_,rfl,Pn (TB:=4) Tryz.Pq (by rw[params3];intro t ht;simp at ht;rcases ht with rfl | rfl | rfl | rfl<;>exact⟨by kernel_rfl,of_decide_eq_true (by kernel_rfl)⟩) underlying4 rfl rfl Uh rfl hb⟩
theorem ck_i:(Rows.checkTakesRow.inPlace==Tryz.pinned.checked.prog.inPlace 3)=true:=by kernel_rfl
theorem ck_u:(Rows.checkTakesRow.unfollowed==Tryz.pinned.checked.prog.unfollowed 3)=true:=by kernel_rfl
theorem ck_r:(Rows.checkTakesRow.recurses==Tryz.pinned.checked.prog.recurses 3)=true:=by kernel_rfl
theorem ck_n:(Rows.checkTakesRow.named==Tryz.pinned.checked.prog.varsNamed 3)=true:=by kernel_rfl
theorem Nb:joinedFacts Tryz.pinned.checked.prog 3 f3 Rows.checkTakesSpec Rows.checkTakesRow=true:=by
 unfold joinedFacts;rw[ck_i,ck_u,ck_r,ck_n]
 kernel_rfl
theorem takes_holds:Rows.CheckTakesSaid:=
 OpenClaim.holds_of_wide 3 f3 rfl rfl rfl rfl rfl rfl rfl ⟨rfl,rfl,rfl,rfl,rfl⟩ rfl rfl rfl rfl rfl (by kernel_rfl) func3 Nb
  (of_decide_eq_true (by kernel_rfl)) (by unfold Func.isWrapper;rw[zD (of_decide_eq_false (by kernel_rfl))];exact⟨rfl,rfl⟩)
  (λos started H enc _=>Cy os started H enc)
end
end Go.Proofs.YtfpjlkdklgokiaaGreat
