/- Texts of one proof, joined: QWO, QSA, QWP, QWQ, QT, QOZ, QQA, QWR. -/
import Derived.Test.YtlmabbigfdbmbaaGreatDoorYi
import Derived.Test.YtlmabbigfdbmbaaGreatDoorYf
import Derived.Test.YtlmabbigfdbmbaaGreatDoorYh
import Derived.ChangeArms
import Derived.DataReads
import Derived.WideShapes
import Derived.Deep.Slices
import Derived.SizedLaws
import Derived.Test.YtlmabbigfdbmbaaGreatDoorRows
import Derived.Lib.LaidU8
import Derived.SliceStrings
import Derived.LaidMore
set_option linter.unusedSimpArgs false
set_option linter.unusedVariables false
namespace Go.Proofs.YtlmabbigfdbmbaaGreatDoor.PShelfNil
open Go.RowKit Go.Proofs.YtlmabbigfdbmbaaGreatDoor.Ord Go.Proofs.YtlmabbigfdbmbaaGreatDoor.Obj Go.Proofs.YtlmabbigfdbmbaaGreatDoorW.PrintWords Go.Proofs.YtlmabbigfdbmbaaGreatDoorW.PrintLast Go.Proofs.YtlmabbigfdbmbaaGreatDoorW.PrintMore Go.Proofs.YtlmabbigfdbmbaaGreatDoor.Shelf
attribute [local irreducible] OpGives
theorem quiet_val{P:Program}{o:Oper}{a:Act}{C:World→Prop}{K:Act→Prop}{v:Value}(h:∀ w,C w→(execOp a.eval o).run P w = .ok (.value v) w)(hk:K (a.put o.dst v)):o.quiet P a C K:=
 ⟨v,fun w hw=>by unfold Oper.quietAt Oper.quietUpon;rw[h w hw];exact⟨rfl,rfl⟩,hk⟩
theorem quiet_call{P:Program}{o:Oper}{a:Act}{C:World→Prop}{K:Act→Prop}{v:Value}{f:FuncId}{args:Array Value}(h:∀ w,C w→(execOp a.eval o).run P w = .ok (.enter f args) w)(hc:∀ w,C w→Calls P f args w fun e w'=>e = .returned v∧C w')(hk:K (a.put o.dst v)):o.quiet P a C K:=
 ⟨v,fun w hw=>by unfold Oper.quietAt Oper.quietUpon;rw[h w hw];exact⟨rfl,hc w hw⟩,hk⟩
theorem region_quiet_lit{P:Program}(C:World→Prop){id:Nat}{Q:Exit→Act→World→Prop}{a:Act}{w:World}{l:List Oper}(hm:P.follows .mixedOrders=true)(hB:Region.lexB .any l.toArray=true)(hC:C w.drew)
  (h:wpQuiet P l.toArray C (fun a'=>∀ w',C w'→Q .normal a' w') l a):(Code.region id l.toArray true).wp P Q a w:=
 wp_region_quiet (C:=C) hm hB hC (by simpa using h)
def nodeA:Ob:=⟨1,⟨#[97]⟩,[],[],[],0,⟨#[]⟩,⟨#[]⟩⟩
def bA:ByteArray:=⟨#[65,4,17,1,49,1,97,64,64]⟩
theorem nodeA_ok:okOb nodeA=true:=by decide
theorem nodeA_wf:wfOb nodeA:=⟨⟨by decide,by decide⟩,fun x hx=>(by cases hx),fun x hx=>(by cases hx)⟩
theorem bes_0:bes 0 = []:=bes_zero
theorem bes_n{n:Nat}(h:0 < n)(h2:n < 256):bes n = [UInt8.ofNat n]:=by rw[bes_pos h,show n / 256=0 by omega,bes_0,Nat.mod_eq_of_lt h2];rfl
theorem enc_l0:encS (listC []) = [64]:=by unfold listC;rw[encS_list,encL];unfold headB;rw[show([]:List S32).length=0 from rfl,bes_0];rfl
theorem enc_num{n:Nat}(h:0 < n)(h2:n < 256):encS (numC n) = [17,UInt8.ofNat n]:=by
 unfold numC
 rw[encS_num,if_neg (by omega)];unfold headB;rw[Int.toNat_natCast,bes_n h h2];rfl
theorem nodeA_bytes:bytesOf nodeA=bA:=by
 have h:encS (cellOf nodeA) = [65,4,17,1,49,1,97,64,64]:=by
  show encS ⟨3,0,⟨#[]⟩,[numC (1:Nat),⟨2,0,⟨#[97]⟩,[]⟩,listC [],listC []]⟩=_
  have e2:encS ⟨2,0,⟨#[97]⟩,[]⟩ = [49,1,97]:=by rw[encS_text];unfold headB;rw[show(ByteArray.mk #[97]).size=1 from rfl,bes_n (by decide) (by decide)];rfl
  rw[encS_list,encL,encL,encL,encL,encL,enc_l0,enc_num (by decide) (by decide),e2]
  unfold headB
  rw[show([numC (1:Nat),⟨2,0,⟨#[97]⟩,[]⟩,listC [],listC []]:List S32).length=4 from rfl,bes_n (by decide) (by decide)]
  rfl
 unfold bytesOf
 rw[h];rfl
def idA:ByteArray:=idS nodeA
theorem idA_sum:idA=sumB bA:=by
 rw[← nodeA_bytes]
 unfold idA idS
 rw[if_pos nodeA_ok]
 rfl
theorem idA_size:idA.size=32:=idS_size nodeA_ok
theorem bA_take:takeO bA=(nodeA,0):=by rw[← nodeA_bytes];exact takeO_back nodeA_ok nodeA_wf
def sev:S32:=numC 7
def SA1:SS:=⟨[(idA,bA)],0,1⟩
def SA2:SS:=⟨[(idA,bA)],1,1⟩
theorem put_S0:S0.put idA bA=(0,SA1):=rfl
theorem SA1_ok:SA1.ok:=by
 have:=SS.put_ok S0_ok (id:=idA) (b:=bA) (by rw[idA_size];decide) (by decide)
 rwa [put_S0]at this
theorem SA2_ok:SA2.ok:=⟨SA1_ok.1,Nat.le_refl _,Nat.le_refl _,SA1_ok.2.2.2⟩
theorem putOb_A:putOb S0 nodeA=(idA,0,SA1):=by
 unfold putOb
 rw[if_pos nodeA_ok,nodeA_bytes,show idS nodeA=idA from rfl,put_S0]
 rfl
theorem sev_ok:okS 16 sev=true:=by decide
theorem sev_wf:wfS sev:=by unfold sev numC;rw[wfS];exact⟨by decide,by decide,by decide,by decide,by rw[wfL];trivial⟩
theorem sev_deep:deepS sev=1:=by unfold sev numC;rw[deepS,deepL]
def XA:S32:=listC [sev,listC [textC bA]]
theorem XA_ok:okS 16 XA=true:=by decide
theorem XA_batch:batchX SA1 sev=XA:=rfl
theorem XA_wf:wfS XA:=wf_batch SA1_ok (by decide) sev_wf
def recA:List UInt8:=encS XA
theorem recA_len:recA.length=17:=by
 have h:recA = [65,2,17,7,65,1,49,9,65,4,17,1,49,1,97,64,64]:=by
  show encS ⟨3,0,⟨#[]⟩,[numC (7:Nat),⟨3,0,⟨#[]⟩,[⟨2,0,bA,[]⟩]⟩]⟩=_
  have e2:encS ⟨2,0,bA,[]⟩ = [49,9,65,4,17,1,49,1,97,64,64]:=by rw[encS_text];unfold headB;rw[show bA.size=9 from rfl,bes_n (by decide) (by decide)];rfl
  have e3:encS ⟨3,0,⟨#[]⟩,[⟨2,0,bA,[]⟩]⟩ = [65,1,49,9,65,4,17,1,49,1,97,64,64]:=by
   rw[encS_list,encL,encL,e2];unfold headB;rw[show([⟨2,0,bA,[]⟩]:List S32).length=1 from rfl,bes_n (by decide) (by decide)];rfl
  rw[encS_list,encL,encL,encL,enc_num (by decide) (by decide),e3]
  unfold headB
  rw[show([numC (7:Nat),⟨3,0,⟨#[]⟩,[⟨2,0,bA,[]⟩]⟩]:List S32).length=2 from rfl,bes_n (by decide) (by decide)]
  rfl
 rw[h];rfl
theorem batch_A:batchB SA1 sev=recA:=by
 unfold batchB checkR
 rw[XA_batch,if_pos XA_ok]
 rfl
theorem recA_ok:recOk recA (sev,[bA]):=by
 refine⟨?_,by show deepS sev≤14;rw[sev_deep];decide,by rw[recA_len];decide⟩
 exact take_back XA_ok XA_wf
theorem putsA:putsOk S0 [bA]:=⟨by rw[← idA_sum,put_S0],by rw[bA_take],by decide,trivial⟩
theorem openA:openL S0 [(sev,[bA])]=SA1:=by
 show(S0.put (sumB bA) bA).2=SA1
 rw[← idA_sum,put_S0]
theorem getA:getS SA2 idA=(nodeA,0):=by
 have:SA2.bytes idA=some bA:=by
  unfold SS.bytes SA2
  simp[place]
 unfold getS
 rw[this]
 exact bA_take
def DA:Drum.DS:=Tape.dx 20 (IntKind.i64.wrap (IntKind.i64.wrap (0 - 1) - 1)) recA
theorem commit_A:commitS SA1 ⟨0,1,0,0⟩ (Tape.dm 20 0 []) sev=(0,SA2,⟨1,1,1,0⟩,DA):=by
 have hw:twrite ⟨0,1,0,0⟩ (Tape.dm 20 0 []) recA=(0,⟨1,1,1,0⟩,DA):=by
  unfold twrite
  rw[Tape.dm_append 20 (by decide) 0 recA (by rw[recA_len];decide),if_pos rfl]
  exact Tape.dm_settle 20 _ recA
 unfold commitS
 rw[if_pos ⟨sev_ok,by rw[sev_deep];decide⟩,if_neg (by decide),batch_A,hw,if_pos rfl]
 rfl
set_option maxRecDepth 100000 in
theorem seven_calls(w:World):Calls Tryz.prog 19 #[] w fun e w'=>e = .returned (.agg #[.int .i64 1,.int .i64 7,.string (⟨#[]⟩:ByteArray),.slice none 0 0])∧Below w.heap.size w w':=by
 go_enter Tryz.func19,Tryz.ntmps19
 go_wp2
 refine bodyPost_ret (results_cell_row rfl _ _ w.heap.size 32 #[.int .i64 1,.int .i64 7,.string (⟨#[]⟩:ByteArray),.slice none 0 0] (0,0) _ rfl (heap_alloc_last _ _) Tryz.underlying32 rfl (by kernel_rfl)) rfl ?_
 exact⟨rfl,(Below.refl _ _).alloc (Nat.le_refl _) _⟩
end Go.Proofs.YtlmabbigfdbmbaaGreatDoor.PShelfNil
namespace Go.Proofs.YtlmabbigfdbmbaaGreatDoor.PShelfNil
open Go.RowKit Go.Proofs.YtlmabbigfdbmbaaGreatDoor.Ord Go.Proofs.YtlmabbigfdbmbaaGreatDoor.Obj Go.Proofs.YtlmabbigfdbmbaaGreatDoorW.PrintWords Go.Proofs.YtlmabbigfdbmbaaGreatDoorW.PrintLast Go.Proofs.YtlmabbigfdbmbaaGreatDoorW.PrintMore
attribute [local irreducible] OpGives
theorem eqR_run(d:Nat)(w:World)(x0 y0 x1 y1 x2 y2 x3 y3:Int)(x4 y4:ByteArray) :
  (Op.equalIn (d+3) 174 (.agg #[.int .i64 x0,.int .i64 x1,.int .i64 x2,.int .i64 x3,.string x4]) (.agg #[.int .i64 y0,.int .i64 y1,.int .i64 y2,.int .i64 y3,.string y4])).run Tryz.prog w = .ok (x0 == y0 && (x1 == y1 && ((x2 == y2 && (x3 == y3 && (x4.toList == y4.toList)))))) w:=by
 refine eqA_of Tryz.underlying174 (by kernel_rfl) ?_
 refine eqf_cons (by rfl) (by go_simp;rfl) (by go_simp;rfl) (by go_simp) ?_
 refine eqf_cons (by rfl) (by go_simp;rfl) (by go_simp;rfl) (by go_simp) ?_
 exact eqf_last (by rfl) (by go_simp) (by go_simp) (eqV_run (d+0) w _ _ _ _ _ _)
theorem eqK_run(d:Nat)(w:World)(x0 y0:Int)(x1 y1:ByteArray) :
  (Op.equalIn (d+2) 115 (.agg #[.int .u8 x0,.string x1]) (.agg #[.int .u8 y0,.string y1])).run Tryz.prog w = .ok (x0 == y0 && (x1.toList == y1.toList)) w:=by
 refine eqA_of Tryz.underlying115 (by kernel_rfl) ?_
 refine eqf_cons (by rfl) (by go_simp;rfl) (by go_simp;rfl) (by go_simp) ?_
 exact eqf_last (by rfl) (by go_simp;rfl) (by go_simp;rfl) (by go_simp)
attribute [local go_sem high] eqR_run eqK_run
set_option maxHeartbeats 8000000 in
set_option maxRecDepth 100000 in
theorem same02_self(l:List S174)(A:Option Addr)(c:Nat)(A':Option Addr)(c':Nat)(w:World)(h:Kd.C k174 w A l.length l)(h':Kd.C k174 w A' l.length l) :
  Calls Tryz.prog 59 #[.slice A l.length c,.slice A' l.length c'] w fun e w'=>e = .returned (.bool true)∧Below w.heap.size w w':=by
 have HA:=Lib.hid h
 have HA':=Lib.hid h'
 have hmx:=h.2.1
 clear h h'
 go_enter Tryz.func59,Tryz.ntmps59
 go_wp2_with fail
 go_loopw [5] (fun v wr=>∃ i:Nat,v = .int .i64 (i:Int)∧i≤l.length∧Below w.heap.size w wr) (fun v _=>l.length - (intOf v).toNat)
 case atStart=>exact⟨0,rfl,Nat.zero_le _,Below.refl _ _⟩
 case round=>
  obtain⟨i,rfl,hi,hbe⟩:=hrel
  have HBE:=Lib.hid hbe
  by_cases hil:i < l.length
  ·obtain⟨x,hx⟩:∃ x,l[i]? = some x:=⟨_,List.getElem?_eq_getElem hil⟩
   obtain⟨ad,rfl,c0,c1,c2,c3,c4,hbk⟩:=row_at (Kd.C_below HA.out hbe) hx
   obtain⟨ad',rfl,d0,d1,d2,d3,d4,hbk'⟩:=row_at (Kd.C_below HA'.out hbe) hx
   clear hx hbe
   go_wp2_with fail
   go_quiet (fail)
   go_wp2_with fail
   go_roundw
   case rel=>exact⟨i+1,by go_num,hil,pw_below_drewN HBE.out _⟩
   case measure=>simp[intOf];omega
  ·clear hbe
   go_wp2_with fail
   go_ret
   exact⟨rfl,HBE.out⟩
set_option maxHeartbeats 8000000 in
set_option maxRecDepth 100000 in
theorem same07_calls(o:Ob)(Ar:Option Addr)(cr:Nat)(Ak:Option Addr)(ck:Nat)(Ap:Option Addr)(cp:Nat)(Ar':Option Addr)(cr':Nat)(Ak':Option Addr)(ck':Nat)(Ap':Option Addr)(cp':Nat)(w:World)(h:ObAt w o Ar cr Ak ck Ap cp)(h':ObAt w o Ar' cr' Ak' ck' Ap' cp') :
  Calls Tryz.prog 17 #[.agg (obV o Ar cr Ak ck Ap cp),.agg (obV o Ar' cr' Ak' ck' Ap' cp')] w fun e w'=>e = .returned (.bool true)∧Below w.heap.size w w':=by
 obtain⟨W1,hW1⟩:∃ W1,W1=w.alloc (.cells (obV o Ar cr Ak ck Ap cp) 27):=⟨_,rfl⟩
 obtain⟨W2,hW2⟩:∃ W2,W2=W1.alloc (.cells (obV o Ar' cr' Ak' ck' Ap' cp') 27):=⟨_,rfl⟩
 have hn1:Below w.heap.size w W1:=by rw[hW1];exact(Below.refl _ _).alloc (Nat.le_refl _) _
 have hn2:Below W1.heap.size W1 W2:=by rw[hW2];exact(Below.refl _ _).alloc (Nat.le_refl _) _
 have hg1:W1.heap[w.heap.size]? = some (.cells (obV o Ar cr Ak ck Ap cp) 27 (0,0)):=by rw[hW1];exact alloc_lastV _ _
 have hg2:W2.heap[W1.heap.size]? = some (.cells (obV o Ar' cr' Ak' ck' Ap' cp') 27 (0,0)):=by rw[hW2];exact alloc_lastV _ _
 have hb2:Below w.heap.size w W2:=hn1.trans (hn2.mono hn1.size)
 have hg12:=(hn2.block _ (Array.getElem?_eq_some_iff.1 hg1).1).trans hg1
 have HO:=Lib.hid (h.below hb2)
 have HO':=Lib.hid (h'.below hb2)
 have HB:=Lib.hid hb2
 have HG:=Lib.hid (And.intro hg12 hg2)
 have hs1:W1.heap.size=w.heap.size+1:=by rw[hW1];simp
 have hmk:=h.k.2.1
 have hmp:=h.p.2.1
 have HR:=Lib.hid (same02_self o.rows Ar cr Ar' cr' W2 (h.below hb2).r (h'.below hb2).r)
 clear h h' hn1 hn2 hb2
 unfold obV at hW1 hW2 hg12 hg2 HG ⊢
 obtain⟨⟨b0,b1,b2,b3⟩,b4,b5,b6,b7⟩:=box8 hg12
 obtain⟨⟨d0,d1,d2,d3⟩,d4,d5,d6,d7⟩:=box8 hg2
 clear hg1 hg2 hg12
 rw[hs1]at d0 d1 d2 d3 d4 d5 d6 d7
 rw[hW2,hW1]at b0 b1 b2 b3 b4 b5 b6 b7 d0 d1 d2 d3 d4 d5 d6 d7
 have HW:=Lib.hid (show W2=_ by rw[hW2,hW1])
 have HS1:=Lib.hid hs1
 clear hW1 hW2 hs1
 go_enter Tryz.func17,Tryz.ntmps17
 go_wp2_with fail
 rw[← HW.out]
 clear b0 b1 b2 b3 b4 b5 b6 b7 d0 d1 d2 d3 d4 d5 d6 d7
 refine HR.out.mono ?_
 rintro e W3 ⟨rfl,hb3⟩
 have HB3:=Lib.hid (HB.out.trans (hb3.mono HB.out.size))
 have HO3:=Lib.hid (HO.out.below hb3)
 have HO3':=Lib.hid (HO'.out.below hb3)
 have HG3:=Lib.hid (And.intro ((hb3.block _ (Array.getElem?_eq_some_iff.1 HG.out.1).1).trans HG.out.1) ((hb3.block _ (Array.getElem?_eq_some_iff.1 HG.out.2).1).trans HG.out.2))
 obtain⟨⟨b0,b1,b2,b3⟩,b4,b5,b6,b7⟩:=box8 HG3.out.1
 obtain⟨⟨d0,d1,d2,d3⟩,d4,d5,d6,d7⟩:=box8 HG3.out.2
 rw[HS1.out]at d0 d1 d2 d3 d4 d5 d6 d7
 clear hb3
 go_wp2_with fail
 clear b0 b1 b2 b3 b4 b5 b6 b7 d0 d1 d2 d3 d4 d5 d6 d7
 go_loopw [5] (fun v wr=>∃ i:Nat,v = .int .i64 (i:Int)∧i≤o.kids.length∧Below W3.heap.size W3 wr) (fun v _=>o.kids.length - (intOf v).toNat)
 case atStart=>exact⟨0,rfl,Nat.zero_le _,Below.refl _ _⟩
 case round=>
  obtain⟨i,rfl,hi,hbe⟩:=hrel
  have HBE:=Lib.hid hbe
  have b3:=(box8 ((hbe.block _ (Array.getElem?_eq_some_iff.1 HG3.out.1).1).trans HG3.out.1)).1.2.2.2
  have b4:=(box8 ((hbe.block _ (Array.getElem?_eq_some_iff.1 HG3.out.1).1).trans HG3.out.1)).2.1
  have d3:=(box8 ((hbe.block _ (Array.getElem?_eq_some_iff.1 HG3.out.2).1).trans HG3.out.2)).1.2.2.2
  have d4:=(box8 ((hbe.block _ (Array.getElem?_eq_some_iff.1 HG3.out.2).1).trans HG3.out.2)).2.1
  rw[HS1.out]at d3 d4
  clear hbe
  by_cases hil:i < o.kids.length
  ·obtain⟨x,hx⟩:∃ x,o.kids[i]? = some x:=⟨_,List.getElem?_eq_getElem hil⟩
   obtain⟨ad,rfl,c0,c1,hbk⟩:=kid_at (HO3.out.below HBE.out).k hx
   obtain⟨ad',rfl,e0,e1,hbk'⟩:=kid_at (HO3'.out.below HBE.out).k hx
   clear hx
   go_wp2_with fail
   go_quiet (fail)
   go_wp2_with fail
   go_roundw
   case rel=>exact⟨i+1,by go_num,hil,pw_below_drewN HBE.out _⟩
   case measure=>simp[intOf];omega
  ·go_wp2_with fail
   clear b3 b4 d3 d4
   go_loopw [6] (fun v wz=>∃ i:Nat,v = .int .i64 (i:Int)∧i≤o.parents.length∧Below W3.heap.size W3 wz) (fun v _=>o.parents.length - (intOf v).toNat)
   case atStart=>exact⟨0,rfl,Nat.zero_le _,HBE.out⟩
   case round=>
    obtain⟨j,rfl,hj,hbe⟩:=hrel
    have HBE:=Lib.hid hbe
    have b4:=(box8 ((hbe.block _ (Array.getElem?_eq_some_iff.1 HG3.out.1).1).trans HG3.out.1)).2.1
    have d4:=(box8 ((hbe.block _ (Array.getElem?_eq_some_iff.1 HG3.out.2).1).trans HG3.out.2)).2.1
    rw[HS1.out]at d4
    clear hbe
    by_cases hil:j < o.parents.length
    ·obtain⟨x,hx⟩:∃ x,o.parents[j]? = some x:=⟨_,List.getElem?_eq_getElem hil⟩
     obtain⟨ad,rfl,c0,hbk⟩:=str_at (HO3.out.below HBE.out).p hx
     obtain⟨ad',rfl,e0,hbk'⟩:=str_at (HO3'.out.below HBE.out).p hx
     clear hx
     go_wp2_with fail
     go_quiet (fail)
     go_wp2_with fail
     go_roundw
     case rel=>exact⟨j+1,by go_num,hil,pw_below_drewN HBE.out _⟩
     case measure=>simp[intOf];omega
    ·go_wp2_with fail
     go_ret
     exact⟨rfl,HB3.out.trans (HBE.out.mono HB3.out.size)⟩
end Go.Proofs.YtlmabbigfdbmbaaGreatDoor.PShelfNil
namespace Go.Proofs.YtlmabbigfdbmbaaGreatDoor.PShelfNil
open Go.RowKit Go.Proofs.YtlmabbigfdbmbaaGreatDoor.Ord Go.Proofs.YtlmabbigfdbmbaaGreatDoor.Obj Go.Proofs.YtlmabbigfdbmbaaGreatDoorW.PrintWords Go.Proofs.YtlmabbigfdbmbaaGreatDoorW.PrintLast Go.Proofs.YtlmabbigfdbmbaaGreatDoorW.PrintMore Go.Proofs.YtlmabbigfdbmbaaGreatDoor.Shelf
attribute [local irreducible] OpGives
theorem dm_zero:Drum.DS.zero 20=Tape.dm 20 0 []:=rfl
theorem first_open{B:Nat}{w W:World}{l:List Drum.Thing}{b:Nat}{t:Drum.Thing}(h:Drum.Sep B w W (t :: l))(ht:Drum.IsDrum b (Tape.dm 20 0 []) t)(hT:∀ W',Below B w W'→Lib.Utf8Tabs 1 2 W') :
  Calls Tryz.prog 16 #[.pointer (some ⟨b,0,none⟩)] W fun e W'=>∃ sb tb pb v A c lv ok,e = .returned (.tuple #[.pointer (some ⟨sb,0,none⟩),.slice A 0 c,.int .i64 0])∧
   Drum.Sep B w W' (shelfT sb tb pb v S0 :: Tape.tapeT tb b ⟨0,1,0,0⟩ :: t :: rowT ok 0 (.slice A 0 c) [] :: Tape.textsT lv [] :: l):=by
 have hop:=sopen_sep h ht rfl (by rw[Tape.dm_great];decide) (by rw[Tape.dm_great];decide) (by decide) [] (by rw[Tape.dm_scan];rfl) (fun i r x _ hx=>by simp at hx) trivial (by decide) (by decide) hT
 unfold SOpen at hop
 rw[Tape.dm_tape,Tape.dm_scan]at hop
 refine hop.mono ?_
 rintro e W' ⟨sb,tb,pb,v,u,lv,ok,rfl,hS⟩
 have hS':Drum.Sep B w W' (shelfT sb tb pb v S0 :: rowT ok 0 u [] :: Tape.tapeT tb b ⟨0,1,0,0⟩ :: Tape.textsT lv [] :: t :: l):=hS
 have hr:Kd.R k32 32 W' 0 ok u []∧∀ k,ok k→k < W'.heap.size:=(hS'.all (rowT ok 0 u []) (by simp)).1
 obtain⟨A,c,rfl,_⟩:=Kd.R_reads hr.1
 refine⟨sb,tb,pb,v,A,c,lv,ok,rfl,hS'.perm (List.Perm.cons _ ?_)⟩
 refine List.Perm.trans (List.Perm.swap _ _ _) (List.Perm.cons _ ?_)
 refine List.Perm.trans (List.Perm.cons _ (List.Perm.swap _ _ _)) ?_
 exact List.Perm.swap _ _ _
theorem second_open{B:Nat}{w W:World}{l:List Drum.Thing}{b:Nat}{t:Drum.Thing}(h:Drum.Sep B w W (t :: l))(ht:Drum.IsDrum b DA t)(hT:∀ W',Below B w W'→Lib.Utf8Tabs 1 2 W') :
  Calls Tryz.prog 16 #[.pointer (some ⟨b,0,none⟩)] W fun e W'=>∃ sb tb pb v A c,e = .returned (.tuple #[.pointer (some ⟨sb,0,none⟩),.slice A 1 c,.int .i64 0])∧Below B w W'∧B≤W'.heap.size∧ShelfAt W' sb tb pb v SA2 (place SA2.things)∧∃ g A3 c3,A=some ⟨g,0,none⟩∧(W'.cell? ⟨g,0,none⟩=some (.int .i64 1)∧W'.cell? ⟨g,1,none⟩=some (.int .i64 7)∧W'.cell? ⟨g,2,none⟩=some (.string (⟨#[]⟩:ByteArray))∧W'.cell? ⟨g,3,none⟩=some (.slice A3 0 c3))∧Kd.C k32 W' A3 0 []:=by
 have hsc:Tape.DS.scan DA=([recA],1):=Tape.dx_scan 20 (by decide) _ recA (by rw[recA_len];decide)
 have hgr:Tape.DS.great DA=1:=Tape.dx_great 20 (by decide) _ recA (by rw[recA_len];decide)
 have hop:=sopen_sep h ht rfl (by rw[hgr];decide) (by rw[hgr];decide) (by decide) [(sev,[bA])] (by rw[hsc];rfl) (fun i r x hr hx=>by
  rw[hsc]at hr
  match i,hr,hx with
  | 0,hr,hx=>simp at hr hx;subst hr;subst hx;exact recA_ok
  | i+1,hr,hx=>simp at hx) ⟨putsA,trivial⟩ (by decide) (by decide) hT
 unfold SOpen at hop
 rw[openA]at hop
 refine hop.mono ?_
 rintro e W' ⟨sb,tb,pb,v,u,lv,ok,rfl,hS⟩
 have hr:Kd.R k32 32 W' 0 ok u [sev]∧∀ k,ok k→k < W'.heap.size:=(hS.all (rowT ok 0 u [sev]) (by simp)).1
 obtain⟨A,c,rfl,hc,hC⟩:=Kd.R_reads hr.1
 obtain⟨ad,A3,c3,eA,k0,k1,k2,k3,_,g3,_⟩:=cell_at (i:=0) (x:=sev) hC rfl
 have hg:∃ g,A=some ⟨g,0,none⟩:=by
  obtain⟨_,inner,ho,_⟩:=hr.1
  rcases ho.2 with ⟨e,h0⟩ | ⟨g,cp,cur,e,_⟩
  ·cases h0
  ·injection e with e1;exact⟨g,e1⟩
 obtain⟨g,rfl⟩:=hg
 injection eA with eA
 subst eA
 exact⟨sb,tb,pb,v,_,c,rfl,hS.below,hS.le,ShelfAt.of hS,g,A3,c3,rfl,⟨k0,k1,k2,k3⟩,g3⟩
set_option maxHeartbeats 16000000 in
set_option maxRecDepth 100000 in
theorem slives_calls(w:World)(hT:Lib.Utf8Tabs 1 2 w):Calls Tryz.prog 13 #[] w fun e w'=>e = .returned (.bool true)∧Below w.heap.size w w':=by
 have HT:=Lib.hid (fun W' (h:Below w.heap.size w W')=>Utf8Tabs_below hT h)
 have hS:=Drum.Sep.start w
 have HS:=Lib.hid hS
 have hzat:∀ W,ObAt W nodeA none 0 none 0 none 0:=fun W=>⟨Kd.C_nil _ _,Nat.le_refl _,Kd.C_nil _ _,Nat.le_refl _,Kd.C_nil _ _,Nat.le_refl _⟩
 have HZ:=Lib.hid hzat
 clear hS hT hzat
 go_enter Tryz.func13,Tryz.ntmps13
 go_wp2_with fail
 refine(Drum.new_sep HS.out 20 (by decide) (by decide)).mono ?_
 rintro e W1 ⟨v,rfl,b,t1,rfl,ht1,hS1⟩
 rw[dm_zero]at ht1
 have HOP:=Lib.hid (first_open hS1 ht1 HT.out)
 have HT1:=Lib.hid ht1
 clear hS1 ht1
 go_wp2_with fail
 refine HOP.out.mono ?_
 rintro e W2 ⟨sb,tb,pb,v2,A2,c2,lv2,ok2,rfl,hS2⟩
 have hpt:=sPut_sep hS2 S0_ok (by decide) nodeA none 0 none 0 none 0 (HZ.out W2) nodeA_wf (HT.out _ hS2.below)
 rw[putOb_A]at hpt
 unfold PutPost obV nodeA at hpt
 simp only[List.length_nil]at hpt
 have HPT:=Lib.hid hpt
 clear hS2 hpt HOP
 go_wp2_with fail
 refine HPT.out.mono ?_
 rintro e W3 ⟨v3,rfl,hS3⟩
 have HS3:=Lib.hid hS3
 have HF3:=Lib.hid (sfresh_at (ShelfAt.of hS3) SA1_ok.2.1 (by decide))
 clear hS3 HPT
 go_wp2_with fail
 refine HF3.out.mono ?_
 rintro e W4 ⟨rfl,nq,rfl⟩
 have HS4:=Lib.hid (HS3.out.drewN nq)
 generalize W3.drewN nq=W4 at HS4 ⊢
 rw[show((SA1.things.length - SA1.sure:Nat):Int)=1 from rfl]
 go_wp2_with fail
 refine(seven_calls W4).mono ?_
 rintro e W5 ⟨rfl,hb5⟩
 have hS5:=HS4.out.grown hb5
 have hcm:=scommit_sep hS5 HT1.out SA1_ok (by decide) sev none 0 (Kd.C_nil _ _) (Nat.le_refl _) sev_wf (by rw[sev_deep];decide) (by decide) (by rw[batch_A,recA_len];decide) (by decide) (by decide) (by decide)
 rw[commit_A]at hcm
 have HCM:=Lib.hid hcm
 clear hS5 hcm hb5
 go_wp2_with fail
 refine HCM.out.mono ?_
 rintro e W6 ⟨v6,t6,rfl,ht6,hS6⟩
 simp only at ht6 hS6 ⊢
 have HS6:=Lib.hid hS6
 have HT6:=Lib.hid ht6
 clear hS6 ht6 HCM
 go_wp2_with fail
 refine(slen_at (ShelfAt.of HS6.out)).mono ?_
 rintro e w' ⟨rfl,rfl⟩
 rw[show((SA2.things.length:Nat):Int)=1 from rfl]
 go_wp2_with fail
 refine(sbatches_at (ShelfAt.of HS6.out) (T:=⟨1,1,1,0⟩) ((HS6.out.all (Tape.tapeT tb b ⟨1,1,1,0⟩) (by simp)).1)).mono ?_
 rintro e w' ⟨rfl,rfl⟩
 go_wp2_with fail
 refine(sfresh_at (ShelfAt.of HS6.out) SA2_ok.2.1 (by decide)).mono ?_
 rintro e W7 ⟨rfl,nq7,rfl⟩
 rw[show((SA2.things.length - SA2.sure:Nat):Int)=0 from rfl]
 have HS7:=Lib.hid (HS6.out.drewN nq7)
 generalize w'.drewN nq7=W7 at HS7 ⊢
 clear HS6
 go_wp2_with fail
 refine(second_open HS7.out.tail.tail HT6.out HT.out).mono ?_
 rintro e W8 ⟨sb8,tb8,pb8,v8,A8,c8,rfl,hbw8,hle8,hsh8,g8,A9,c9,rfl,⟨q0,q1,q2,q3⟩,hC9⟩
 have hget:=sget_at hsh8 SA2_ok (by decide) idA (by rw[idA_size];decide) (HT.out _ hbw8)
 rw[getA]at hget
 unfold TakeOPost obV nodeA at hget
 simp only[List.length_nil]at hget
 have HGET:=Lib.hid hget
 have HQ:=Lib.hid (And.intro (And.intro q0 (And.intro q1 (And.intro q2 q3))) hC9)
 have HBW:=Lib.hid (And.intro hbw8 hle8)
 clear hbw8 hle8 hsh8 q0 q1 q2 q3 hC9 hget HS7
 go_wp2_with fail
 refine HGET.out.mono ?_
 rintro e W9 ⟨Ar,cr,Ak,ck,Ap,cp,rfl,hO,hb9⟩
 obtain⟨W10,hW10⟩:∃ W10,W10=W9.alloc (.cells #[.int .i64 1,.string (⟨#[97]⟩:ByteArray),.slice Ar 0 cr,.slice Ak 0 ck,.slice Ap 0 cp,.int .i64 0,.string (⟨#[]⟩:ByteArray),.string (⟨#[]⟩:ByteArray)] 27):=⟨_,rfl⟩
 have hn10:Below W9.heap.size W9 W10:=by rw[hW10];exact(Below.refl _ _).alloc (Nat.le_refl _) _
 have hg10:W10.heap[W9.heap.size]? = some (.cells #[.int .i64 1,.string (⟨#[97]⟩:ByteArray),.slice Ar 0 cr,.slice Ak 0 ck,.slice Ap 0 cp,.int .i64 0,.string (⟨#[]⟩:ByteArray),.string (⟨#[]⟩:ByteArray)] 27 (0,0)):=by rw[hW10];exact alloc_lastV _ _
 have hb810:Below W8.heap.size W8 W10:=hb9.trans (hn10.mono hb9.size)
 have HO10:=Lib.hid (hO.at_.below hn10)
 have HW10:=Lib.hid hW10
 have HG10:=Lib.hid hg10
 have hcl:∀ W,Below W10.heap.size W10 W→((W.cell? ⟨g8,0,none⟩=some (.int .i64 1)∧W.cell? ⟨g8,1,none⟩=some (.int .i64 7)∧W.cell? ⟨g8,2,none⟩=some (.string (⟨#[]⟩:ByteArray))∧W.cell? ⟨g8,3,none⟩=some (.slice A9 0 c9))∧Kd.C k32 W A9 0 [])∧
   W.heap[W9.heap.size]? = some (.cells #[.int .i64 1,.string (⟨#[97]⟩:ByteArray),.slice Ar 0 cr,.slice Ak 0 ck,.slice Ap 0 cp,.int .i64 0,.string (⟨#[]⟩:ByteArray),.string (⟨#[]⟩:ByteArray)] 27 (0,0))∧ObAt W nodeA Ar cr Ak ck Ap cp:=fun W hW=>by
  have hb:Below W8.heap.size W8 W:=hb810.trans (hW.mono hb810.size)
  obtain⟨⟨q0,q1,q2,q3⟩,hC⟩:=HQ.out
  exact⟨⟨⟨pw_cell_below hb q0,pw_cell_below hb q1,pw_cell_below hb q2,pw_cell_below hb q3⟩,Kd.C_below hC hb⟩,(hW.block _ (Array.getElem?_eq_some_iff.1 HG10.out).1).trans HG10.out,HO10.out.below hW⟩
 have HCL:=Lib.hid hcl
 have HFIN:=Lib.hid (fun W (hW:Below W10.heap.size W10 W)=>(show Below w.heap.size w W from HBW.out.1.trans ((hb810.trans (hW.mono hb810.size)).mono HBW.out.2)))
 have HS4:=Lib.hid (fun W (hW:Below W10.heap.size W10 W)=>(same4_calls (SizeOf.sizeOf sev+1) sev sev (Nat.lt_succ_self _) A9 c9 none 0 W (HCL.out W hW).1.2 (Kd.C_nil _ _)))
 have HS7:=Lib.hid (fun W (hW:Below W10.heap.size W10 W)=>same07_calls nodeA Ar cr Ak ck Ap cp none 0 none 0 none 0 W (HCL.out W hW).2.2 (HZ.out W))
 rw[eqC_self]at HS4
 unfold obV nodeA at HS7
 unfold sev numC at HS4
 simp only[List.length_nil]at HS7 HS4
 clear hb9 hn10 hg10 hb810 hO hW10 hcl
 go_wp2_with fail
 rw[← HW10.out]
 refine region_quiet_lit (fun W=>Below W10.heap.size W10 W) (by kernel_rfl) (by kernel_rfl) ((Below.refl _ _).drew) ?_
 refine BigFrame.wpQuiet_want (by go_simp) (fun K hK=>quiet_val (v:=.slice (some ⟨g8,0,none⟩) 1 c8) (fun w' hw'=>by go_simp) (hK _ ?_))
 clear hK K
 simp only[Act.put,List.setIfInBounds_toArray,List.set_cons_zero,List.set_cons_succ]
 refine BigFrame.wpQuiet_want (by go_simp) (fun K hK=>quiet_val (v:=.int .i64 1) (fun w' hw'=>by go_simp) (hK _ ?_))
 clear hK K
 simp only[Act.put,List.setIfInBounds_toArray,List.set_cons_zero,List.set_cons_succ]
 refine BigFrame.wpQuiet_want (by go_simp) (fun K hK=>quiet_val (v:=.bool true) (fun w' hw'=>by go_simp) (hK _ ?_))
 clear hK K
 simp only[Act.put,List.setIfInBounds_toArray,List.set_cons_zero,List.set_cons_succ]
 refine BigFrame.wpQuiet_want (by go_simp) (fun K hK=>quiet_val (v:=.bool true) (fun w' hw'=>by go_simp) (hK _ ?_))
 clear hK K
 simp only[Act.put,List.setIfInBounds_toArray,List.set_cons_zero,List.set_cons_succ]
 refine BigFrame.wpQuiet_want (by go_simp) (fun K hK=>quiet_val (v:=.slice (some ⟨g8,0,none⟩) 1 c8) (fun w' hw'=>by go_simp) (hK _ ?_))
 clear hK K
 simp only[Act.put,List.setIfInBounds_toArray,List.set_cons_zero,List.set_cons_succ]
 refine BigFrame.wpQuiet_want (by go_simp) (fun K hK=>quiet_val (v:=.pointer (some ⟨g8,0,none⟩)) (fun w' hw'=>by go_simp) (hK _ ?_))
 clear hK K
 simp only[Act.put,List.setIfInBounds_toArray,List.set_cons_zero,List.set_cons_succ]
 refine BigFrame.wpQuiet_want (by go_simp) (fun K hK=>quiet_val (v:=.agg #[.int .i64 1,.int .i64 7,.string (⟨#[]⟩:ByteArray),.slice A9 0 c9]) (fun w' hw'=>by obtain⟨⟨⟨q0,q1,q2,q3⟩,_⟩,_⟩:=HCL.out w' hw';go_simp) (hK _ ?_))
 clear hK K
 simp only[Act.put,List.setIfInBounds_toArray,List.set_cons_zero,List.set_cons_succ]
 refine BigFrame.wpQuiet_want (by go_simp) (fun K hK=>quiet_call (v:=.agg #[.int .i64 1,.int .i64 7,.string (⟨#[]⟩:ByteArray),.slice none 0 0]) (f:=19) (args:=#[]) (fun w' hw'=>by go_simp) (fun w' hw'=>(seven_calls w').mono fun e W' ⟨he,hb⟩=>⟨he,hw'.trans (hb.mono hw'.size)⟩) (hK _ ?_))
 clear hK K
 simp only[Act.put,List.setIfInBounds_toArray,List.set_cons_zero,List.set_cons_succ]
 refine BigFrame.wpQuiet_want (by go_simp) (fun K hK=>quiet_call (v:=.bool true) (f:=28) (args:=#[.agg #[.int .i64 1,.int .i64 7,.string (⟨#[]⟩:ByteArray),.slice A9 0 c9],.agg #[.int .i64 1,.int .i64 7,.string (⟨#[]⟩:ByteArray),.slice none 0 0]]) (fun w' hw'=>by go_simp) (fun w' hw'=>(HS4.out w' hw').mono fun e W' ⟨he,hb⟩=>⟨he,hw'.trans (hb.mono hw'.size)⟩) (hK _ ?_))
 clear hK K
 simp only[Act.put,List.setIfInBounds_toArray,List.set_cons_zero,List.set_cons_succ]
 refine BigFrame.wpQuiet_want (by go_simp) (fun K hK=>quiet_val (v:=.bool true) (fun w' hw'=>by go_simp) (hK _ ?_))
 clear hK K
 simp only[Act.put,List.setIfInBounds_toArray,List.set_cons_zero,List.set_cons_succ]
 refine BigFrame.wpQuiet_want (by go_simp) (fun K hK=>quiet_val (v:=.bool true) (fun w' hw'=>by go_simp) (hK _ ?_))
 clear hK K
 simp only[Act.put,List.setIfInBounds_toArray,List.set_cons_zero,List.set_cons_succ]
 refine BigFrame.wpQuiet_want (by go_simp) (fun K hK=>quiet_val (v:=.int .i64 0) (fun w' hw'=>by go_simp) (hK _ ?_))
 clear hK K
 simp only[Act.put,List.setIfInBounds_toArray,List.set_cons_zero,List.set_cons_succ]
 refine BigFrame.wpQuiet_want (by go_simp) (fun K hK=>quiet_val (v:=.bool true) (fun w' hw'=>by go_simp) (hK _ ?_))
 clear hK K
 simp only[Act.put,List.setIfInBounds_toArray,List.set_cons_zero,List.set_cons_succ]
 refine BigFrame.wpQuiet_want (by go_simp) (fun K hK=>quiet_val (v:=.bool true) (fun w' hw'=>by go_simp) (hK _ ?_))
 clear hK K
 simp only[Act.put,List.setIfInBounds_toArray,List.set_cons_zero,List.set_cons_succ]
 refine BigFrame.wpQuiet_want (by go_simp) (fun K hK=>quiet_val (v:=.bool true) (fun w' hw'=>by go_simp) (hK _ ?_))
 clear hK K
 simp only[Act.put,List.setIfInBounds_toArray,List.set_cons_zero,List.set_cons_succ]
 refine BigFrame.wpQuiet_want (by go_simp) (fun K hK=>quiet_val (v:=.agg #[.int .i64 1,.string (⟨#[97]⟩:ByteArray),.slice Ar 0 cr,.slice Ak 0 ck,.slice Ap 0 cp,.int .i64 0,.string (⟨#[]⟩:ByteArray),.string (⟨#[]⟩:ByteArray)]) (fun w' hw'=>by obtain⟨⟨z0,z1,z2,z3⟩,z4,z5,z6,z7⟩:=box8 (HCL.out w' hw').2.1;go_simp) (hK _ ?_))
 clear hK K
 simp only[Act.put,List.setIfInBounds_toArray,List.set_cons_zero,List.set_cons_succ]
 refine BigFrame.wpQuiet_want (by go_simp) (fun K hK=>quiet_val (v:=.agg #[.int .i64 1,.string (⟨#[97]⟩:ByteArray),.slice none 0 0,.slice none 0 0,.slice none 0 0,.int .i64 0,.string (⟨#[]⟩:ByteArray),.string (⟨#[]⟩:ByteArray)]) (fun w' hw'=>by go_simp) (hK _ ?_))
 clear hK K
 simp only[Act.put,List.setIfInBounds_toArray,List.set_cons_zero,List.set_cons_succ]
 refine BigFrame.wpQuiet_want (by go_simp) (fun K hK=>quiet_call (v:=.bool true) (f:=17) (args:=#[.agg #[.int .i64 1,.string (⟨#[97]⟩:ByteArray),.slice Ar 0 cr,.slice Ak 0 ck,.slice Ap 0 cp,.int .i64 0,.string (⟨#[]⟩:ByteArray),.string (⟨#[]⟩:ByteArray)],.agg #[.int .i64 1,.string (⟨#[97]⟩:ByteArray),.slice none 0 0,.slice none 0 0,.slice none 0 0,.int .i64 0,.string (⟨#[]⟩:ByteArray),.string (⟨#[]⟩:ByteArray)]]) (fun w' hw'=>by go_simp) (fun w' hw'=>(HS7.out w' hw').mono fun e W' ⟨he,hb⟩=>⟨he,hw'.trans (hb.mono hw'.size)⟩) (hK _ ?_))
 clear hK K
 simp only[Act.put,List.setIfInBounds_toArray,List.set_cons_zero,List.set_cons_succ]
 refine BigFrame.wpQuiet_want (by go_simp) (fun K hK=>quiet_val (v:=.bool true) (fun w' hw'=>by go_simp) (hK _ ?_))
 clear hK K
 simp only[Act.put,List.setIfInBounds_toArray,List.set_cons_zero,List.set_cons_succ]
 refine BigFrame.wpQuiet_want (by go_simp) (fun K hK=>quiet_val (v:=.bool true) (fun w' hw'=>by go_simp) (hK _ ?_))
 clear hK K
 simp only[Act.put,List.setIfInBounds_toArray,List.set_cons_zero,List.set_cons_succ]
 refine BigFrame.wpQuiet_want (by go_simp) (fun K hK=>quiet_val (v:=.int .i64 0) (fun w' hw'=>by go_simp) (hK _ ?_))
 clear hK K
 simp only[Act.put,List.setIfInBounds_toArray,List.set_cons_zero,List.set_cons_succ]
 refine BigFrame.wpQuiet_want (by go_simp) (fun K hK=>quiet_val (v:=.bool true) (fun w' hw'=>by go_simp) (hK _ ?_))
 clear hK K
 simp only[Act.put,List.setIfInBounds_toArray,List.set_cons_zero,List.set_cons_succ]
 refine BigFrame.wpQuiet_want (by go_simp) (fun K hK=>quiet_val (v:=.bool true) (fun w' hw'=>by go_simp) (hK _ ?_))
 clear hK K
 simp only[Act.put,List.setIfInBounds_toArray,List.set_cons_zero,List.set_cons_succ]
 refine BigFrame.wpQuiet_want (by go_simp) (fun K hK=>quiet_val (v:=.bool true) (fun w' hw'=>by go_simp) (hK _ ?_))
 clear hK K
 simp only[Act.put,List.setIfInBounds_toArray,List.set_cons_zero,List.set_cons_succ]
 refine wpQuiet_nil ?_
 intro W2 hW2
 have HF:=Lib.hid (HFIN.out _ hW2)
 clear hW2
 go_wp2_with fail
 go_ret
 exact⟨rfl,HF.out⟩
end Go.Proofs.YtlmabbigfdbmbaaGreatDoor.PShelfNil
namespace Go.Proofs.YtlmabbigfdbmbaaGreatDoor.PShelfNil
open Go.RowKit Go.Proofs.YtlmabbigfdbmbaaGreatDoor.Ord Go.Proofs.YtlmabbigfdbmbaaGreatDoor.Obj Go.Proofs.YtlmabbigfdbmbaaGreatDoorW.PrintWords Go.Proofs.YtlmabbigfdbmbaaGreatDoorW.PrintLast Go.Proofs.YtlmabbigfdbmbaaGreatDoorW.PrintMore Go.Proofs.YtlmabbigfdbmbaaGreatDoor.Shelf
attribute [local irreducible] OpGives
def AnyB(w:World)(e:Ending)(w':World):Prop:=∃ q:Bool,e = .returned (.bool q)∧Below w.heap.size w w'
set_option maxHeartbeats 4000000 in
set_option maxRecDepth 100000 in
theorem weight_zero(w:World):Calls Tryz.prog 51 #[.agg #[.int .i64 0,.int .i64 0,.string (⟨#[]⟩:ByteArray),.slice none 0 0],.int .i64 1000,.int .i64 30] w fun e w'=>e = .returned (.int .i64 999)∧Below w.heap.size w w':=by
 obtain⟨W1,hW1⟩:∃ W1,W1=w.alloc (.cells #[.int .i64 0,.int .i64 0,.string (⟨#[]⟩:ByteArray),.slice none 0 0] 32):=⟨_,rfl⟩
 have hn1:Below w.heap.size w W1:=by rw[hW1];exact(Below.refl _ _).alloc (Nat.le_refl _) _
 have hg1:W1.heap[w.heap.size]? = some (.cells #[.int .i64 0,.int .i64 0,.string (⟨#[]⟩:ByteArray),.slice none 0 0] 32 (0,0)):=by rw[hW1];exact alloc_lastV _ _
 obtain⟨⟨b0,b1,b2,b3⟩,_⟩:=box4 hg1
 have HG1:=Lib.hid hg1
 have HN1:=Lib.hid hn1
 rw[hW1]at b0 b1 b2 b3
 have HW1:=Lib.hid hW1
 clear hW1 hn1 hg1
 go_enter Tryz.func51,Tryz.ntmps51
 go_wp2_with fail
 rw[← HW1.out]
 clear b0 b1 b2 b3
 go_loopw [1,7] (fun a v wr=>v = .int .i64 0∧a = .int .i64 999∧wr=W1) (fun _ _ _=>0)
 case atStart=>exact⟨rfl,rfl,rfl⟩
 case round=>
  obtain⟨rfl,rfl,rfl⟩:=hrel
  obtain⟨⟨b0,b1,b2,b3⟩,_⟩:=box4 HG1.out
  go_wp2_with fail
  go_ret
  exact⟨rfl,HN1.out⟩
set_option maxHeartbeats 8000000 in
set_option maxRecDepth 100000 in
theorem few_one(o:Ob)(Ar:Option Addr)(cr:Nat)(Ak:Option Addr)(ck:Nat)(Ap:Option Addr)(cp:Nat)(g:Nat)(w:World)(hg:w.heap[g]? = some (.cells #[.int .i64 0,.int .i64 0,.int .i64 o.kind,.string o.label,.slice Ar o.rows.length cr,.slice Ak o.kids.length ck,.slice Ap o.parents.length cp,.int .i64 o.stamp,.string o.note,.string o.root,.int .i64 0,.int .i64 0,.string (⟨#[]⟩:ByteArray),.slice none 0 0,.slice none 0 0] 35 (0,0))) :
  Calls Tryz.prog 12 #[.slice (some ⟨g,0,none⟩) 1 1] w (AnyB w):=by
 have hcs:∀ W,Below w.heap.size w W→(W.cell? ⟨g,2,none⟩=some (.int .i64 o.kind)∧W.cell? ⟨g,3,none⟩=some (.string o.label)∧W.cell? ⟨g,4,none⟩=some (.slice Ar o.rows.length cr)∧W.cell? ⟨g,5,none⟩=some (.slice Ak o.kids.length ck))∧
   (W.cell? ⟨g,6,none⟩=some (.slice Ap o.parents.length cp)∧W.cell? ⟨g,7,none⟩=some (.int .i64 o.stamp)∧W.cell? ⟨g,8,none⟩=some (.string o.note)∧W.cell? ⟨g,9,none⟩=some (.string o.root))∧
   (W.cell? ⟨g,10,none⟩=some (.int .i64 0)∧W.cell? ⟨g,11,none⟩=some (.int .i64 0)∧W.cell? ⟨g,12,none⟩=some (.string (⟨#[]⟩:ByteArray))∧W.cell? ⟨g,13,none⟩=some (.slice none 0 0))∧W.cell? ⟨g,14,none⟩=some (.slice none 0 0):=fun W hW=>by
  have hgW:=(hW.block _ (Array.getElem?_eq_some_iff.1 hg).1).trans hg
  refine⟨⟨?_,?_,?_,?_⟩,⟨?_,?_,?_,?_⟩,⟨?_,?_,?_,?_⟩,?_⟩<;>(rw[Lib.cell_of_heap hgW];rfl)
 have HCS:=Lib.hid hcs
 clear hcs hg
 go_enter Tryz.func12,Tryz.ntmps12
 go_wp2_with fail
 go_loopw [3] (fun v wr=>∃ i:Nat,v = .int .i64 (i:Int)∧i≤1∧Below w.heap.size w wr) (fun v _=>1 - (intOf v).toNat)
 case atStart=>exact⟨0,rfl,Nat.zero_le _,Below.refl _ _⟩
 case round=>
  obtain⟨i,rfl,hi,hbe⟩:=hrel
  have HBE:=Lib.hid hbe
  by_cases hil:i < 1
  ·obtain rfl:i=0:=by omega
   obtain⟨W3,hW3⟩:∃ W3,W3=wr.alloc (.cells #[.int .i64 o.kind,.string o.label,.slice Ar o.rows.length cr,.slice Ak o.kids.length ck,.slice Ap o.parents.length cp,.int .i64 o.stamp,.string o.note,.string o.root] 27):=⟨_,rfl⟩
   have hn3:Below wr.heap.size wr W3:=by rw[hW3];exact(Below.refl _ _).alloc (Nat.le_refl _) _
   have hg3:W3.heap[wr.heap.size]? = some (.cells #[.int .i64 o.kind,.string o.label,.slice Ar o.rows.length cr,.slice Ak o.kids.length ck,.slice Ap o.parents.length cp,.int .i64 o.stamp,.string o.note,.string o.root] 27 (0,0)):=by rw[hW3];exact alloc_lastV _ _
   obtain⟨⟨b0,b1,b2,b3⟩,b4,b5,b6,b7⟩:=box8 hg3
   have HB3:=Lib.hid (HBE.out.trans (hn3.mono HBE.out.size))
   obtain⟨⟨c2,c3,c4,c5⟩,⟨c6,c7,c8,c9⟩,_⟩:=HCS.out wr HBE.out
   obtain⟨_,_,⟨d10,d11,d12,d13⟩,d14⟩:=HCS.out W3 HB3.out
   rw[hW3]at b0 b1 b2 b3 b4 b5 b6 b7 d10 d11 d12 d13 d14
   have HW3:=Lib.hid hW3
   clear hbe hn3 hg3 hW3 hi hil
   obtain⟨S,hS⟩:∃ S:Int,wrap64 (wrap64 ((o.label.size:Int)+(o.note.size:Int))+(o.root.size:Int))=S:=⟨_,rfl⟩
   by_cases h1:300 < S
   ·go_wp2_with fail
    rw[← HW3.out]
    go_ret
    exact⟨_,rfl,HB3.out⟩
   by_cases h2:70 < (o.rows.length:Int)
   ·go_wp2_with fail
    rw[← HW3.out]
    go_ret
    exact⟨_,rfl,HB3.out⟩
   by_cases h3:60 < (o.kids.length:Int)
   ·go_wp2_with fail
    rw[← HW3.out]
    go_ret
    exact⟨_,rfl,HB3.out⟩
   by_cases h4:5 < (o.parents.length:Int)
   ·go_wp2_with fail
    rw[← HW3.out]
    go_ret
    exact⟨_,rfl,HB3.out⟩
   go_wp2_with fail
   rw[← HW3.out]
   refine(weight_zero W3).mono ?_
   rintro e W4 ⟨rfl,hb4⟩
   have HB4:=Lib.hid (HB3.out.trans (hb4.mono HB3.out.size))
   clear hb4
   go_wp2_with fail
   go_roundw
   case rel=>exact⟨1,by go_num,Nat.le_refl _,HB4.out⟩
   case measure=>simp[intOf]
  ·obtain rfl:i=1:=by omega
   go_wp2_with fail
   go_ret
   exact⟨_,rfl,HBE.out⟩
set_option maxHeartbeats 16000000 in
set_option maxRecDepth 100000 in
theorem shelfNil_walk(o:Ob)(Ar:Option Addr)(cr:Nat)(Ak:Option Addr)(ck:Nat)(Ap:Option Addr)(cp:Nat)(id:ByteArray)(m:Bool)(w:World)(hT:Lib.Utf8Tabs 1 2 w) :
  Calls Tryz.prog 3 #[.agg (obV o Ar cr Ak ck Ap cp),.string id,.bool m] w fun e w'=>e = .returned (.bool true)∧Below w.heap.size w w':=by
 unfold obV
 have HT:=Lib.hid (fun W' (h:Below w.heap.size w W')=>Utf8Tabs_below hT h)
 have HL:=Lib.hid (fun W' (h:Below w.heap.size w W')=>(slives_calls W' (HT.out W' h)).mono (R':=fun e w'=>e = .returned (.bool true)∧Below w.heap.size w w') (fun e w' ⟨he,hb⟩=>⟨he,h.trans (hb.mono h.size)⟩))
 have HZ:=Lib.hid (fun W=>(⟨Kd.C_nil _ _,Nat.le_refl _,Kd.C_nil _ _,Nat.le_refl _,Kd.C_nil _ _,Nat.le_refl _⟩:ObAt W zOb none 0 none 0 none 0))
 obtain⟨W1,hW1⟩:∃ W1,W1=w.alloc (.cells #[.int .i64 o.kind,.string o.label,.slice Ar o.rows.length cr,.slice Ak o.kids.length ck,.slice Ap o.parents.length cp,.int .i64 o.stamp,.string o.note,.string o.root] 27):=⟨_,rfl⟩
 obtain⟨W2,hW2⟩:∃ W2,W2=W1.alloc (.cells #[.int .i64 0,.int .i64 0,.int .i64 o.kind,.string o.label,.slice Ar o.rows.length cr,.slice Ak o.kids.length ck,.slice Ap o.parents.length cp,.int .i64 o.stamp,.string o.note,.string o.root,.int .i64 0,.int .i64 0,.string (⟨#[]⟩:ByteArray),.slice none 0 0,.slice none 0 0] 35):=⟨_,rfl⟩
 have hn1:Below w.heap.size w W1:=by rw[hW1];exact(Below.refl _ _).alloc (Nat.le_refl _) _
 have hg1:W1.heap[w.heap.size]? = some (.cells #[.int .i64 o.kind,.string o.label,.slice Ar o.rows.length cr,.slice Ak o.kids.length ck,.slice Ap o.parents.length cp,.int .i64 o.stamp,.string o.note,.string o.root] 27 (0,0)):=by rw[hW1];exact alloc_lastV _ _
 have hn2:Below W1.heap.size W1 W2:=by rw[hW2];exact(Below.refl _ _).alloc (Nat.le_refl _) _
 have hg2:W2.heap[W1.heap.size]? = some (.cells #[.int .i64 0,.int .i64 0,.int .i64 o.kind,.string o.label,.slice Ar o.rows.length cr,.slice Ak o.kids.length ck,.slice Ap o.parents.length cp,.int .i64 o.stamp,.string o.note,.string o.root,.int .i64 0,.int .i64 0,.string (⟨#[]⟩:ByteArray),.slice none 0 0,.slice none 0 0] 35 (0,0)):=by rw[hW2];exact alloc_lastV _ _
 have hs1:W1.heap.size=w.heap.size+1:=by rw[hW1];simp
 obtain⟨⟨b0,b1,b2,b3⟩,b4,b5,b6,b7⟩:=box8 hg1
 have HFEW:=Lib.hid (few_one o Ar cr Ak ck Ap cp W1.heap.size W2 hg2)
 have HN1:=Lib.hid hn1
 have HB2:=Lib.hid (hn1.trans (hn2.mono hn1.size))
 have HG1:=Lib.hid hg1
 have HG2:=Lib.hid ((hn2.block _ (Array.getElem?_eq_some_iff.1 hg1).1).trans hg1)
 rw[hs1]at HFEW
 rw[hW1]at hW2 b0 b1 b2 b3 b4 b5 b6 b7
 have HW2:=Lib.hid hW2
 clear hW1 hn1 hg1 hn2 hg2 hs1 hT hW2
 go_enter Tryz.func3,Tryz.ntmps3
 go_wp2_with fail
 rw[← HW2.out]
 clear b0 b1 b2 b3 b4 b5 b6 b7
 refine HFEW.out.mono ?_
 rintro e W3 ⟨q,rfl,hb3⟩
 have HB3:=Lib.hid (HB2.out.trans (hb3.mono HB2.out.size))
 have HG3:=Lib.hid ((hb3.block _ (Array.getElem?_eq_some_iff.1 HG2.out).1).trans HG2.out)
 clear hb3
 cases q with
 | false=>
  go_wp2_with fail
  refine(HL.out W3 HB3.out).mono ?_
  rintro e W4 ⟨rfl,hb4⟩
  have HF:=Lib.hid hb4
  clear hb4
  go_wp2_with fail
  go_ret
  exact⟨rfl,HF.out⟩
 | true=>
  by_cases h100:100 < (id.size:Int)
  ·go_wp2_with fail
   refine(HL.out W3 HB3.out).mono ?_
   rintro e W4 ⟨rfl,hb4⟩
   have HF:=Lib.hid hb4
   clear hb4
   go_wp2_with fail
   go_ret
   exact⟨rfl,HF.out⟩
  ·obtain⟨⟨b0,b1,b2,b3⟩,b4,b5,b6,b7⟩:=box8 HG3.out
   cases m with
   | false=>
    have HNS:=Lib.hid (show NoShelf W3 (.pointer none)from .inl rfl)
    go_wp2_with fail
    clear b0 b1 b2 b3 b4 b5 b6 b7
    refine(sput_no (.pointer none) o Ar cr Ak ck Ap cp W3 HNS.out).mono ?_
    rintro e W5 ⟨rfl,hb5⟩
    have HB5:=Lib.hid (HB3.out.trans (hb5.mono HB3.out.size))
    have HN5:=Lib.hid (HNS.out.below hb5)
    clear hb5
    go_wp2_with fail
    refine(sget_no (.pointer none) id W5 HN5.out).mono ?_
    rintro e W6 ⟨Ar6,cr6,Ak6,ck6,Ap6,cp6,rfl,hO6,hb6⟩
    unfold obV zOb
    simp only[List.length_nil]
    obtain⟨W7,hW7⟩:∃ W7,W7=W6.alloc (.cells #[.int .i64 0,.string (⟨#[]⟩:ByteArray),.slice Ar6 0 cr6,.slice Ak6 0 ck6,.slice Ap6 0 cp6,.int .i64 0,.string (⟨#[]⟩:ByteArray),.string (⟨#[]⟩:ByteArray)] 27):=⟨_,rfl⟩
    have hn7:Below W6.heap.size W6 W7:=by rw[hW7];exact(Below.refl _ _).alloc (Nat.le_refl _) _
    have hg7:W7.heap[W6.heap.size]? = some (.cells #[.int .i64 0,.string (⟨#[]⟩:ByteArray),.slice Ar6 0 cr6,.slice Ak6 0 ck6,.slice Ap6 0 cp6,.int .i64 0,.string (⟨#[]⟩:ByteArray),.string (⟨#[]⟩:ByteArray)] 27 (0,0)):=by rw[hW7];exact alloc_lastV _ _
    have hb57:Below W5.heap.size W5 W7:=hb6.trans (hn7.mono hb6.size)
    have HB7:=Lib.hid (HB5.out.trans (hb57.mono HB5.out.size))
    have HN7:=Lib.hid (HN5.out.below hb57)
    have hsm:=same07_calls zOb Ar6 cr6 Ak6 ck6 Ap6 cp6 none 0 none 0 none 0 W7 (hO6.at_.below hn7) (HZ.out W7)
    unfold obV zOb at hsm
    simp only[List.length_nil]at hsm
    have HSM:=Lib.hid hsm
    obtain⟨⟨y0,y1,y2,y3⟩,y4,y5,y6,y7⟩:=box8 hg7
    rw[hW7]at y0 y1 y2 y3 y4 y5 y6 y7
    have HW7:=Lib.hid hW7
    clear hb6 hO6 hn7 hg7 hb57 hsm hW7
    go_wp2_with fail
    rw[← HW7.out]
    refine(sopen_nil W7).mono ?_
    rintro e w' ⟨rfl,hw⟩
    cases hw
    rw[HW7.out]
    go_wp2_with fail
    rw[← HW7.out]
    clear y0 y1 y2 y3 y4 y5 y6 y7
    refine HSM.out.mono ?_
    rintro e W8 ⟨rfl,hb8⟩
    have HB8:=Lib.hid (HB7.out.trans (hb8.mono HB7.out.size))
    have HN8:=Lib.hid (HN7.out.below hb8)
    clear hb8
    go_wp2_with fail
    refine(seven_calls W8).mono ?_
    rintro e W9 ⟨rfl,hb9⟩
    have HB9:=Lib.hid (HB8.out.trans (hb9.mono HB8.out.size))
    have HN9:=Lib.hid (HN8.out.below hb9)
    clear hb9
    go_wp2_with fail
    refine(scommit_no (.pointer none) 1 7 (⟨#[]⟩:ByteArray) none 0 0 W9 HN9.out).mono ?_
    rintro e W10 ⟨rfl,hb10⟩
    have HB10:=Lib.hid (HB9.out.trans (hb10.mono HB9.out.size))
    have HN10:=Lib.hid (HN9.out.below hb10)
    clear hb10
    go_wp2_with fail
    refine(sdrop_no (.pointer none) W10 HN10.out).mono ?_
    rintro e w' ⟨rfl,hw⟩
    cases hw
    go_wp2_with fail
    refine(slen_no (.pointer none) W10 HN10.out).mono ?_
    rintro e w' ⟨rfl,hw⟩
    cases hw
    go_wp2_with fail
    refine(sfresh_no (.pointer none) W10 HN10.out).mono ?_
    rintro e w' ⟨rfl,hw⟩
    cases hw
    go_wp2_with fail
    refine(sroom_no (.pointer none) W10 HN10.out).mono ?_
    rintro e w' ⟨rfl,hw⟩
    cases hw
    go_wp2_with fail
    refine(sbatches_no (.pointer none) W10 HN10.out).mono ?_
    rintro e w' ⟨rfl,hw⟩
    cases hw
    go_wp2_with fail
    refine(HL.out W10 HB10.out).mono ?_
    rintro e W11 ⟨rfl,hb11⟩
    have HF:=Lib.hid hb11
    clear hb11
    go_wp2_with fail
    go_ret
    exact⟨rfl,HF.out⟩
   | true=>
    obtain⟨W4,hW4⟩:∃ W4,W4=W3.alloc (.cells #[.pointer none,.slice none 0 0,.map none,.int .i64 0] 43):=⟨_,rfl⟩
    have hn4:Below W3.heap.size W3 W4:=by rw[hW4];exact(Below.refl _ _).alloc (Nat.le_refl _) _
    have hg4:W4.heap[W3.heap.size]? = some (.cells #[.pointer none,.slice none 0 0,.map none,.int .i64 0] 43 (0,0)):=by rw[hW4];exact alloc_lastV _ _
    have HNS:=Lib.hid (show NoShelf W4 (.pointer (some ⟨W3.heap.size,0,none⟩))from .inr ⟨_,rfl,(box4 hg4).1.1⟩)
    have HB4:=Lib.hid (HB3.out.trans (hn4.mono HB3.out.size))
    have HG4:=Lib.hid ((hn4.block _ (Array.getElem?_eq_some_iff.1 HG3.out).1).trans HG3.out)
    clear b0 b1 b2 b3 b4 b5 b6 b7
    obtain⟨⟨b0,b1,b2,b3⟩,b4,b5,b6,b7⟩:=box8 HG4.out
    rw[hW4]at b0 b1 b2 b3 b4 b5 b6 b7
    have HW4:=Lib.hid hW4
    clear hn4 hg4 hW4
    go_wp2_with fail
    rw[← HW4.out]
    clear b0 b1 b2 b3 b4 b5 b6 b7
    refine(sput_no (.pointer (some ⟨W3.heap.size,0,none⟩)) o Ar cr Ak ck Ap cp W4 HNS.out).mono ?_
    rintro e W5 ⟨rfl,hb5⟩
    have HB5:=Lib.hid (HB4.out.trans (hb5.mono HB4.out.size))
    have HN5:=Lib.hid (HNS.out.below hb5)
    clear hb5
    go_wp2_with fail
    refine(sget_no (.pointer (some ⟨W3.heap.size,0,none⟩)) id W5 HN5.out).mono ?_
    rintro e W6 ⟨Ar6,cr6,Ak6,ck6,Ap6,cp6,rfl,hO6,hb6⟩
    unfold obV zOb
    simp only[List.length_nil]
    obtain⟨W7,hW7⟩:∃ W7,W7=W6.alloc (.cells #[.int .i64 0,.string (⟨#[]⟩:ByteArray),.slice Ar6 0 cr6,.slice Ak6 0 ck6,.slice Ap6 0 cp6,.int .i64 0,.string (⟨#[]⟩:ByteArray),.string (⟨#[]⟩:ByteArray)] 27):=⟨_,rfl⟩
    have hn7:Below W6.heap.size W6 W7:=by rw[hW7];exact(Below.refl _ _).alloc (Nat.le_refl _) _
    have hg7:W7.heap[W6.heap.size]? = some (.cells #[.int .i64 0,.string (⟨#[]⟩:ByteArray),.slice Ar6 0 cr6,.slice Ak6 0 ck6,.slice Ap6 0 cp6,.int .i64 0,.string (⟨#[]⟩:ByteArray),.string (⟨#[]⟩:ByteArray)] 27 (0,0)):=by rw[hW7];exact alloc_lastV _ _
    have hb57:Below W5.heap.size W5 W7:=hb6.trans (hn7.mono hb6.size)
    have HB7:=Lib.hid (HB5.out.trans (hb57.mono HB5.out.size))
    have HN7:=Lib.hid (HN5.out.below hb57)
    have hsm:=same07_calls zOb Ar6 cr6 Ak6 ck6 Ap6 cp6 none 0 none 0 none 0 W7 (hO6.at_.below hn7) (HZ.out W7)
    unfold obV zOb at hsm
    simp only[List.length_nil]at hsm
    have HSM:=Lib.hid hsm
    obtain⟨⟨y0,y1,y2,y3⟩,y4,y5,y6,y7⟩:=box8 hg7
    rw[hW7]at y0 y1 y2 y3 y4 y5 y6 y7
    have HW7:=Lib.hid hW7
    clear hb6 hO6 hn7 hg7 hb57 hsm hW7
    go_wp2_with fail
    rw[← HW7.out]
    refine(sopen_nil W7).mono ?_
    rintro e w' ⟨rfl,hw⟩
    cases hw
    rw[HW7.out]
    go_wp2_with fail
    rw[← HW7.out]
    clear y0 y1 y2 y3 y4 y5 y6 y7
    refine HSM.out.mono ?_
    rintro e W8 ⟨rfl,hb8⟩
    have HB8:=Lib.hid (HB7.out.trans (hb8.mono HB7.out.size))
    have HN8:=Lib.hid (HN7.out.below hb8)
    clear hb8
    go_wp2_with fail
    refine(seven_calls W8).mono ?_
    rintro e W9 ⟨rfl,hb9⟩
    have HB9:=Lib.hid (HB8.out.trans (hb9.mono HB8.out.size))
    have HN9:=Lib.hid (HN8.out.below hb9)
    clear hb9
    go_wp2_with fail
    refine(scommit_no (.pointer (some ⟨W3.heap.size,0,none⟩)) 1 7 (⟨#[]⟩:ByteArray) none 0 0 W9 HN9.out).mono ?_
    rintro e W10 ⟨rfl,hb10⟩
    have HB10:=Lib.hid (HB9.out.trans (hb10.mono HB9.out.size))
    have HN10:=Lib.hid (HN9.out.below hb10)
    clear hb10
    go_wp2_with fail
    refine(sdrop_no (.pointer (some ⟨W3.heap.size,0,none⟩)) W10 HN10.out).mono ?_
    rintro e w' ⟨rfl,hw⟩
    cases hw
    go_wp2_with fail
    refine(slen_no (.pointer (some ⟨W3.heap.size,0,none⟩)) W10 HN10.out).mono ?_
    rintro e w' ⟨rfl,hw⟩
    cases hw
    go_wp2_with fail
    refine(sfresh_no (.pointer (some ⟨W3.heap.size,0,none⟩)) W10 HN10.out).mono ?_
    rintro e w' ⟨rfl,hw⟩
    cases hw
    go_wp2_with fail
    refine(sroom_no (.pointer (some ⟨W3.heap.size,0,none⟩)) W10 HN10.out).mono ?_
    rintro e w' ⟨rfl,hw⟩
    cases hw
    go_wp2_with fail
    refine(sbatches_no (.pointer (some ⟨W3.heap.size,0,none⟩)) W10 HN10.out).mono ?_
    rintro e w' ⟨rfl,hw⟩
    cases hw
    go_wp2_with fail
    refine(HL.out W10 HB10.out).mono ?_
    rintro e W11 ⟨rfl,hb11⟩
    have HF:=Lib.hid hb11
    clear hb11
    go_wp2_with fail
    go_ret
    exact⟨rfl,HF.out⟩
end Go.Proofs.YtlmabbigfdbmbaaGreatDoor.PShelfNil
namespace Go.Proofs.YtlmabbigfdbmbaaGreatDoor.PShelfNil
open Go.RowKit Go.Proofs.YtlmabbigfdbmbaaGreatDoorW.PrintWords Go.Proofs.YtlmabbigfdbmbaaGreatDoorW.PrintLast Go.Proofs.YtlmabbigfdbmbaaGreatDoorW.PrintMore
open Go.ChangeShapes Go.WideShapes
theorem choose_row{α:Type}(P:Nat→α→Prop):∀ n,(∀ i,i < n→∃ v,P i v)→∃ l:List α,l.length=n∧∀ i v,l[i]? = some v→P i v
 | 0,_=>⟨[],rfl,fun i v h=>by simp at h⟩
 | n+1,h=>by
  obtain⟨l,hl,hp⟩:=choose_row P n (fun i hi=>h i (by omega))
  obtain⟨v,hv⟩:=h n (by omega)
  refine⟨l ++ [v],by simp[hl],fun i u hu=>?_⟩
  rcases Nat.lt_or_ge i l.length with hlt | hge
  ·rw[List.getElem?_append_left hlt]at hu;exact hp i u hu
  ·rw[List.getElem?_append_right hge]at hu
   have hi:i - l.length=0:=by
    rcases Nat.eq_zero_or_pos (i - l.length)with e | e
    ·exact e
    ·rw[List.getElem?_eq_none (by simp;omega)]at hu;cases hu
   rw[hi]at hu
   simp at hu
   subst hu
   have:i=n:=by omega
   rw[this];exact hv
section
variable{H:Type}{enc:TypeId × Value→H}{W:World}{held:Bool}
theorem cells_one:Tryz.prog.cellsOf 3=1∧Tryz.prog.cellsOf 9=1∧Tryz.prog.cellsOf 30=1:=⟨by kernel_rfl,by kernel_rfl,by kernel_rfl⟩
end
end Go.Proofs.YtlmabbigfdbmbaaGreatDoor.PShelfNil
namespace Go.Proofs.YtlmabbigfdbmbaaGreatDoor.PShelfNil
open Go.RowKit Go.Proofs.YtlmabbigfdbmbaaGreatDoor.Ord Go.Proofs.YtlmabbigfdbmbaaGreatDoor.Obj Go.Proofs.YtlmabbigfdbmbaaGreatDoorW.PrintWords Go.Proofs.YtlmabbigfdbmbaaGreatDoorW.PrintLast Go.Proofs.YtlmabbigfdbmbaaGreatDoorW.PrintMore
open Go.ChangeShapes Go.WideShapes
section
variable{H:Type}{enc:TypeId × Value→H}{W:World}{held:Bool}
theorem open_sl{α:Type}(d:Kd α)(P:α→Prop)(t e:TypeId)(hu:Tryz.prog.underlying t=some (.slice e))(hsz:Tryz.prog.cellsOf e=d.sz){fuel:Nat}
  (hel:∀ cs (x:DataW H × List MemPlace),DataW.trod enc Tryz.prog W 0 (fun _=>true) held fuel e cs=some x→cs.length=d.sz→∃ y,d.K W y cs∧P y) {cs:List Value} {x:DataW H × List MemPlace}
  (h:DataW.trod enc Tryz.prog W 0 (fun _=>true) held (fuel+1) t cs=some x):∃ l A c,cs = [.slice A (l:List α).length c]∧l.length≤c∧d.C W A l.length l∧∀ y∈l,P y:=by
 rcases DataW.trod_slice hu h with ⟨rfl,_⟩ | ⟨a,len,cap,elems,rest,n,hn,rfl,_,_,hl,hm,hlen,hels,_,_⟩
 ·exact⟨[],none,0,rfl,Nat.le_refl _,Kd.C_nil _ _,fun y hy=>by cases hy⟩
 ·injection hn with hn
  subst hn
  rw[hsz]at hels
  obtain⟨l,hll,hlp⟩:=choose_row (fun i y=>∃ c,c.length=d.sz∧d.K W y c∧P y∧∀ j u,c[j]? = some u→W.cell? (a.add (i * d.sz+j))=some u) len (fun i hi=>by
   have he:=hels i hi
   rw[List.getElem?_eq_getElem (by omega)]at he
   obtain⟨cs',hc,ht⟩:=Option.bind_eq_some_iff.1 he
   obtain⟨_,hcl,hat⟩:=World.cells?_some hc
   obtain⟨y,hy,hp⟩:=hel cs' _ ht hcl
   refine⟨y,cs',hcl,hy,hp,fun j u hu=>?_⟩
   have hj:j < d.sz:=by rw[← hcl];exact(List.getElem?_eq_some_iff.1 hu).1
   have:=hat j hj
   rw[hu]at this
   rw[← this,Go.Deep.add_add])
  refine⟨l,some a,cap,by rw[hll],by omega,⟨rfl,by unfold maxLen at hm;omega,fun _=>⟨a,rfl,fun j p hj=>?_⟩⟩,fun y hy=>?_⟩
  ·obtain⟨c,h1,h2,_,h3⟩:=hlp j p hj
   exact⟨c,h1,h2,h3⟩
  ·obtain⟨i,hi⟩:=List.getElem?_of_mem hy
   obtain⟨c,_,_,hp,_⟩:=hlp i y hi
   exact hp
end
end Go.Proofs.YtlmabbigfdbmbaaGreatDoor.PShelfNil
namespace Go.Proofs.YtlmabbigfdbmbaaGreatDoor.PShelfNil
open Go.RowKit Go.Proofs.YtlmabbigfdbmbaaGreatDoor.Ord Go.Proofs.YtlmabbigfdbmbaaGreatDoor.Obj Go.Proofs.YtlmabbigfdbmbaaGreatDoorW.PrintWords Go.Proofs.YtlmabbigfdbmbaaGreatDoorW.PrintLast Go.Proofs.YtlmabbigfdbmbaaGreatDoorW.PrintMore
open Go.ChangeShapes Go.WideShapes
set_option maxRecDepth 100000
section
variable{H:Type}{enc:TypeId × Value→H}{W:World}{held:Bool}
theorem wf_byte{n:Int}(h:(Lit.int .u8 n).wf=true):0≤n∧n≤255:=by
 simp only[Lit.wf,Bool.and_eq_true,decide_eq_true_eq]at h
 exact⟨Int.le_trans (by decide) h.1,Int.le_trans h.2 (by decide)⟩
theorem open_value{fuel:Nat}{cs:List Value}{x:DataW H × List MemPlace}(h:DataW.trod enc Tryz.prog W 0 (fun _=>true) held fuel 172 cs=some x) :
  ∃ v:S172,cs = [.int .i64 v.f0,.int .i64 v.f1,.string v.f2]∧(-9223372036854775808≤v.f1∧v.f1≤9223372036854775807):=by
 cases fuel with
 | zero=>simp[DataW.trod]at h
 | succ fuel=>
  obtain⟨xs,n,hn,_,hlen,hxs,hf⟩:=DataW.trod_struct Tryz.underlying172 h
  injection hn with hn
  subst hn
  obtain⟨a,b,c,rfl⟩:∃ a b c,cs = [a,b,c]:=by
   rw[show Tryz.prog.cellsOf 172=3 from by kernel_rfl]at hlen
   match cs,hlen with
   | [a,b,c],_=>exact⟨a,b,c,rfl⟩
  have hx:xs.length=3:=hxs
  have g0:DataW.trod enc Tryz.prog W 0 (fun _=>true) held fuel 170 [a]=xs[0]? :=by have:=hf 0 _ rfl;rw[show Tryz.prog.cellsOf (_:Field).type=1 from by kernel_rfl]at this;exact this
  have g1:DataW.trod enc Tryz.prog W 0 (fun _=>true) held fuel 3 [b]=xs[1]? :=by have:=hf 1 _ rfl;rw[show Tryz.prog.cellsOf (_:Field).type=1 from cells_one.1]at this;exact this
  have g2:DataW.trod enc Tryz.prog W 0 (fun _=>true) held fuel 9 [c]=xs[2]? :=by have:=hf 2 _ rfl;rw[show Tryz.prog.cellsOf (_:Field).type=1 from cells_one.2.1]at this;exact this
  rw[List.getElem?_eq_getElem (by omega)]at g0 g1 g2
  obtain⟨n0,e0,_,w0⟩:=DataW.trod_int Tryz.underlying170 g0
  obtain⟨n1,e1,_,w1⟩:=DataW.trod_int Tryz.underlying3 g1
  obtain⟨s2,e2,_,w2⟩:=DataW.trod_string Tryz.underlying9 g2
  simp at e0 e1 e2
  subst e0;subst e1;subst e2
  exact⟨⟨n0,n1,s2⟩,rfl,wf_int w1⟩
theorem open_row{fuel:Nat}{cs:List Value}{x:DataW H × List MemPlace}(h:DataW.trod enc Tryz.prog W 0 (fun _=>true) held fuel 174 cs=some x) :
  ∃ v:S174,cs = [.int .i64 v.f0,.int .i64 v.f1,.int .i64 v.f2.f0,.int .i64 v.f2.f1,.string v.f2.f2]∧
   ((-9223372036854775808≤v.f0∧v.f0≤9223372036854775807)∧(-9223372036854775808≤v.f1∧v.f1≤9223372036854775807)∧-9223372036854775808≤v.f2.f1∧v.f2.f1≤9223372036854775807):=by
 cases fuel with
 | zero=>simp[DataW.trod]at h
 | succ fuel=>
  obtain⟨xs,n,hn,_,hlen,hxs,hf⟩:=DataW.trod_struct Tryz.underlying174 h
  injection hn with hn
  subst hn
  obtain⟨a,b,c,d,e,rfl⟩:∃ a b c d e,cs = [a,b,c,d,e]:=by
   rw[show Tryz.prog.cellsOf 174=5 from by kernel_rfl]at hlen
   match cs,hlen with
   | [a,b,c,d,e],_=>exact⟨a,b,c,d,e,rfl⟩
  have hx:xs.length=3:=hxs
  have g0:DataW.trod enc Tryz.prog W 0 (fun _=>true) held fuel 3 [a]=xs[0]? :=by have:=hf 0 _ rfl;rw[show Tryz.prog.cellsOf (_:Field).type=1 from by kernel_rfl]at this;exact this
  have g1:DataW.trod enc Tryz.prog W 0 (fun _=>true) held fuel 3 [b]=xs[1]? :=by have:=hf 1 _ rfl;rw[show Tryz.prog.cellsOf (_:Field).type=1 from cells_one.1]at this;exact this
  have g2:DataW.trod enc Tryz.prog W 0 (fun _=>true) held fuel 172 [c,d,e]=xs[2]? :=by have:=hf 2 _ rfl;rw[show Tryz.prog.cellsOf (_:Field).type=3 from by kernel_rfl]at this;exact this
  rw[List.getElem?_eq_getElem (by omega)]at g0 g1 g2
  obtain⟨n0,e0,_,w0⟩:=DataW.trod_int Tryz.underlying3 g0
  obtain⟨n1,e1,_,w1⟩:=DataW.trod_int Tryz.underlying3 g1
  obtain⟨v,e2,w2⟩:=open_value g2
  simp at e0 e1 e2
  obtain⟨e2,e3,e4⟩:=e2
  subst e0;subst e1;subst e2;subst e3;subst e4
  exact⟨⟨n0,n1,v⟩,rfl,wf_int w0,wf_int w1,w2⟩
theorem open_kid{fuel:Nat}{cs:List Value}{x:DataW H × List MemPlace}(h:DataW.trod enc Tryz.prog W 0 (fun _=>true) held fuel 115 cs=some x) :
  ∃ v:S115,cs = [.int .u8 v.f0,.string v.f1]∧0≤v.f0∧v.f0≤255:=by
 cases fuel with
 | zero=>simp[DataW.trod]at h
 | succ fuel=>
  obtain⟨xs,n,hn,_,hlen,hxs,hf⟩:=DataW.trod_struct Tryz.underlying115 h
  injection hn with hn
  subst hn
  obtain⟨a,b,rfl⟩:∃ a b,cs = [a,b]:=by
   rw[show Tryz.prog.cellsOf 115=2 from by kernel_rfl]at hlen
   match cs,hlen with
   | [a,b],_=>exact⟨a,b,rfl⟩
  have hx:xs.length=2:=hxs
  have g0:DataW.trod enc Tryz.prog W 0 (fun _=>true) held fuel 5 [a]=xs[0]? :=by have:=hf 0 _ rfl;rw[show Tryz.prog.cellsOf (_:Field).type=1 from by kernel_rfl]at this;exact this
  have g1:DataW.trod enc Tryz.prog W 0 (fun _=>true) held fuel 9 [b]=xs[1]? :=by have:=hf 1 _ rfl;rw[show Tryz.prog.cellsOf (_:Field).type=1 from cells_one.2.1]at this;exact this
  rw[List.getElem?_eq_getElem (by omega)]at g0 g1
  obtain⟨n0,e0,_,w0⟩:=DataW.trod_int Tryz.underlying5 g0
  obtain⟨s1,e1,_,w1⟩:=DataW.trod_string Tryz.underlying9 g1
  simp at e0 e1
  subst e0;subst e1
  exact⟨⟨n0,s1⟩,rfl,wf_byte w0⟩
theorem open_str1{fuel:Nat}{cs:List Value}{x:DataW H × List MemPlace}(h:DataW.trod enc Tryz.prog W 0 (fun _=>true) held fuel 9 cs=some x):∃ s,cs = [.string s]:=by
 cases fuel with
 | zero=>simp[DataW.trod]at h
 | succ fuel=>obtain⟨s,e,_,_⟩:=DataW.trod_string Tryz.underlying9 h;exact⟨s,e⟩
theorem open_rows{fuel:Nat}{cs:List Value}{x:DataW H × List MemPlace}(h:DataW.trod enc Tryz.prog W 0 (fun _=>true) held fuel 23 cs=some x) :
  ∃ l A c,cs = [.slice A (l:List S174).length c]∧l.length≤c∧Kd.C k174 W A l.length l∧
   ∀ v∈l,((-9223372036854775808≤v.f0∧v.f0≤9223372036854775807)∧(-9223372036854775808≤v.f1∧v.f1≤9223372036854775807)∧-9223372036854775808≤v.f2.f1∧v.f2.f1≤9223372036854775807):=by
 cases fuel with
 | zero=>simp[DataW.trod]at h
 | succ fuel=>exact open_sl k174 _ 23 174 Tryz.underlying23 (by kernel_rfl) (fun cs x h _=>by obtain⟨v,e,w⟩:=open_row h;exact⟨v,by rw[e];exact k174_mk W v,w⟩) h
theorem open_kids{fuel:Nat}{cs:List Value}{x:DataW H × List MemPlace}(h:DataW.trod enc Tryz.prog W 0 (fun _=>true) held fuel 24 cs=some x) :
  ∃ l A c,cs = [.slice A (l:List S115).length c]∧l.length≤c∧Kd.C k115 W A l.length l∧∀ v∈l,0≤v.f0∧v.f0≤255:=by
 cases fuel with
 | zero=>simp[DataW.trod]at h
 | succ fuel=>exact open_sl k115 _ 24 115 Tryz.underlying24 (by kernel_rfl) (fun cs x h _=>by obtain⟨v,e,w⟩:=open_kid h;exact⟨v,by rw[e];exact k115_mk W v,w⟩) h
theorem open_strs{fuel:Nat}{cs:List Value}{x:DataW H × List MemPlace}(h:DataW.trod enc Tryz.prog W 0 (fun _=>true) held fuel 25 cs=some x) :
  ∃ l A c,cs = [.slice A (l:List ByteArray).length c]∧l.length≤c∧Kd.C Kd.string W A l.length l∧∀ v∈l,True:=by
 cases fuel with
 | zero=>simp[DataW.trod]at h
 | succ fuel=>exact open_sl Kd.string _ 25 9 Tryz.underlying25 (by kernel_rfl) (fun cs x h _=>by obtain⟨v,e⟩:=open_str1 h;exact⟨v,by rw[e];exact rfl,trivial⟩) h
set_option maxRecDepth 100000 in
theorem open_ob{r:Reach}{b0:Nat}{v:Value}{d:DataW H}{p:List MemPlace}(hv:Value.okWide Tryz.prog W r b0 27 v)(h:DataW.Trod enc Tryz.prog W 0 (fun _=>true) held 27 v d p) :
  ∃ (o:Ob) (Ar:Option Addr) (cr:Nat) (Ak:Option Addr) (ck:Nat) (Ap:Option Addr) (cp:Nat),v = .agg (obV o Ar cr Ak ck Ap cp)∧ObAt W o Ar cr Ak ck Ap cp∧wfOb o:=by
 obtain⟨cs,rfl,hsz⟩:=okWide_struct Tryz.underlying27 hv
 obtain⟨fuel,hf⟩:=h
 have hf':DataW.trod enc Tryz.prog W 0 (fun _=>true) held fuel 27 cs.toList=some (d,p):=hf
 clear hf
 cases fuel with
 | zero=>simp[DataW.trod]at hf'
 | succ fuel=>
  obtain⟨xs,n,hn,_,hlen,hxs,hf⟩:=DataW.trod_struct Tryz.underlying27 hf'
  injection hn with hn
  subst hn
  obtain⟨a,b,c,d,e,f,g,i,ecs⟩:∃ a b c d e f g i,cs.toList = [a,b,c,d,e,f,g,i]:=by
   rw[show Tryz.prog.cellsOf 27=8 from by kernel_rfl]at hlen
   match cs.toList,hlen with
   | [a,b,c,d,e,f,g,i],_=>exact⟨a,b,c,d,e,f,g,i,rfl⟩
  rw[ecs]at hf
  have hx:xs.length=8:=hxs
  have g0:DataW.trod enc Tryz.prog W 0 (fun _=>true) held fuel 22 [a]=xs[0]? :=by have:=hf 0 _ rfl;rw[show Tryz.prog.cellsOf (_:Field).type=1 from by kernel_rfl]at this;exact this
  have g1:DataW.trod enc Tryz.prog W 0 (fun _=>true) held fuel 9 [b]=xs[1]? :=by have:=hf 1 _ rfl;rw[show Tryz.prog.cellsOf (_:Field).type=1 from cells_one.2.1]at this;exact this
  have g2:DataW.trod enc Tryz.prog W 0 (fun _=>true) held fuel 23 [c]=xs[2]? :=by have:=hf 2 _ rfl;rw[show Tryz.prog.cellsOf (_:Field).type=1 from by kernel_rfl]at this;exact this
  have g3:DataW.trod enc Tryz.prog W 0 (fun _=>true) held fuel 24 [d]=xs[3]? :=by have:=hf 3 _ rfl;rw[show Tryz.prog.cellsOf (_:Field).type=1 from by kernel_rfl]at this;exact this
  have g4:DataW.trod enc Tryz.prog W 0 (fun _=>true) held fuel 25 [e]=xs[4]? :=by have:=hf 4 _ rfl;rw[show Tryz.prog.cellsOf (_:Field).type=1 from by kernel_rfl]at this;exact this
  have g5:DataW.trod enc Tryz.prog W 0 (fun _=>true) held fuel 3 [f]=xs[5]? :=by have:=hf 5 _ rfl;rw[show Tryz.prog.cellsOf (_:Field).type=1 from cells_one.1]at this;exact this
  have g6:DataW.trod enc Tryz.prog W 0 (fun _=>true) held fuel 9 [g]=xs[6]? :=by have:=hf 6 _ rfl;rw[show Tryz.prog.cellsOf (_:Field).type=1 from cells_one.2.1]at this;exact this
  have g7:DataW.trod enc Tryz.prog W 0 (fun _=>true) held fuel 9 [i]=xs[7]? :=by have:=hf 7 _ rfl;rw[show Tryz.prog.cellsOf (_:Field).type=1 from cells_one.2.1]at this;exact this
  rw[List.getElem?_eq_getElem (by omega)]at g0 g1 g2 g3 g4 g5 g6 g7
  obtain⟨n0,e0,_,w0⟩:=DataW.trod_int Tryz.underlying22 g0
  obtain⟨s1,e1,_,w1⟩:=DataW.trod_string Tryz.underlying9 g1
  obtain⟨lr,Ar,cr,e2,l2,c2,w2⟩:=open_rows g2
  obtain⟨lk,Ak,ck,e3,l3,c3,w3⟩:=open_kids g3
  obtain⟨lp,Ap,cp,e4,l4,c4,_⟩:=open_strs g4
  obtain⟨n5,e5,_,w5⟩:=DataW.trod_int Tryz.underlying3 g5
  obtain⟨s6,e6,_,w6⟩:=DataW.trod_string Tryz.underlying9 g6
  obtain⟨s7,e7,_,w7⟩:=DataW.trod_string Tryz.underlying9 g7
  simp at e0 e1 e2 e3 e4 e5 e6 e7
  subst e0;subst e1;subst e2;subst e3;subst e4;subst e5;subst e6;subst e7
  refine⟨⟨n0,s1,lr,lk,lp,n5,s6,s7⟩,Ar,cr,Ak,ck,Ap,cp,?_,⟨c2,l2,c3,l3,c4,l4⟩,⟨wf_int w5,w2,w3⟩⟩
  rw[← Array.toArray_toList (xs:=cs),ecs]
  rfl
end
end Go.Proofs.YtlmabbigfdbmbaaGreatDoor.PShelfNil
namespace Go.Proofs.YtlmabbigfdbmbaaGreatDoor.PShelfNil
set_option maxRecDepth 100000 in
theorem tabs_of{W:World}(hL:laidMet Tryz.prog Rows.shelfNilRow.laid W):Lib.Utf8Tabs 1 2 W:=
 utf8Tabs_of_reads (ρ:=Tryz.lays260_ren) Tryz.lays260 ⟨by kernel_rfl,by kernel_rfl,by kernel_rfl,by kernel_rfl,by kernel_rfl,by kernel_rfl,by kernel_rfl⟩ (Lib.laidMet.reads hL (.tail _ (.head _))) (Lib.laidMet.reads hL (.head _))
end Go.Proofs.YtlmabbigfdbmbaaGreatDoor.PShelfNil
