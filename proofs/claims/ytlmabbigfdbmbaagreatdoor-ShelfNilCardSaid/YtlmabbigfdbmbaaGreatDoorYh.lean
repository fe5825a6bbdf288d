/- Texts of one proof, joined: QOG, QOH, QOL, QOM, QON, QOO, QOI, QOJ, QOK, QOP, QOQ, QOR, QOT, QY. -/
import Derived.Test.YtlmabbigfdbmbaaGreatDoorYg
import Derived.Test.YtlmabbigfdbmbaaGreatDoorYf
import Derived.Handy
import Derived.Test.YtlmabbigfdbmbaaGreatDoorYc
import Derived.Deep.Slices
set_option linter.unusedSimpArgs false
set_option linter.unusedVariables false
namespace Go.Proofs.YtlmabbigfdbmbaaGreatDoor.PShelfNil
open Go.RowKit Go.Proofs.YtlmabbigfdbmbaaGreatDoor.Ord Go.Proofs.YtlmabbigfdbmbaaGreatDoor.Obj Go.Proofs.YtlmabbigfdbmbaaGreatDoorW.PrintWords Go.Proofs.YtlmabbigfdbmbaaGreatDoorW.PrintLast Go.Proofs.YtlmabbigfdbmbaaGreatDoorW.PrintMore
attribute [local irreducible] OpGives
attribute [local go_sem] rdl_const rdl_func rdl_global rdl_nil rdl_cons
def kidC(x:S115):S32:=listC [numC x.f0,textC x.f1]
def nodeC(o:Ob):S32:=listC [numC 1,textC o.label,rowsC o.rows,listC (o.kids.map kidC)]
theorem cellF_lower{b b':Nat}{x:S32}{u:Value}{W:World}(h:cellF b x u W)(hb:b'≤b):cellF b' x u W:=by
 obtain⟨v3,e,hr⟩:=h
 exact⟨v3,e,Kd.R_lower hr hb⟩
theorem rC_below{b:Nat}{v:Value}{l:List S32}{W W':World}(h:rC W b v l)(hb:Below W.heap.size W W'):rC W' b v l:=Kd.R_below h hb
theorem rC_own{b:Nat}{v:Value}{l:List S32}{W:World}(h:rC W b v l):∀ k,v.ownBlock=some k→k < W.heap.size:=fun k hk=>by
 obtain⟨_,inner,ho,_⟩:=h
 exact own_lt ho k hk
theorem put4_below'{w W:World}{g:Nat}(h:Below w.heap.size w W)(hg:w.heap.size≤g)(a0 a1 a2 a3:Value):Below w.heap.size w (put4 W g a0 a1 a2 a3):=
 ⟨h.os,h.tape,h.output,by rw[put4_size];exact h.size,fun k hk=>(put4_far (by omega) _ _ _ _).trans (h.block k hk)⟩
set_option maxHeartbeats 16000000 in
set_option maxRecDepth 100000 in
theorem ncell_calls(o:Ob)(Ar:Option Addr)(cr:Nat)(Ak:Option Addr)(ck:Nat)(Ap:Option Addr)(cp:Nat)(w:World)(hO:ObAt w o Ar cr Ak ck Ap cp)(hrl:o.rows.length≤1000000)(hkl:o.kids.length≤1000000)(hk8:∀ x∈o.kids,0≤x.f0∧x.f0≤255) :
  Calls Tryz.prog 255 #[.agg (obV o Ar cr Ak ck Ap cp)] w (CellPostR w.heap.size (nodeC o) w):=by
 obtain⟨knd,lab,rws,kds,prs,stp,nte,rot⟩:=o
 unfold obV nodeC
 simp only at hO hrl hkl hk8 ⊢
 have hOk:=hO.k
 have hOr:=hO.r
 have hOlr:=hO.lr
 simp only at hOk hOr hOlr
 obtain⟨W1,hW1⟩:∃ W1,W1=w.alloc (.cells #[.int .i64 knd,.string lab,.slice Ar rws.length cr,.slice Ak kds.length ck,.slice Ap prs.length cp,.int .i64 stp,.string nte,.string rot] 197):=⟨_,rfl⟩
 have hn1:Below w.heap.size w W1:=by rw[hW1];exact(Below.refl _ _).alloc (Nat.le_refl _) _
 have hg1:W1.heap[w.heap.size]? = some (.cells #[.int .i64 knd,.string lab,.slice Ar rws.length cr,.slice Ak kds.length ck,.slice Ap prs.length cp,.int .i64 stp,.string nte,.string rot] 197 (0,0)):=by rw[hW1];exact alloc_lastV _ _
 have hs1:W1.heap.size=w.heap.size+1:=by rw[hW1];simp
 obtain⟨W2,hW2⟩:∃ W2,W2=W1.alloc (.cells #[.int .i64 0,.int .i64 0,.string (⟨#[]⟩:ByteArray),.slice none 0 0] 32):=⟨_,rfl⟩
 have hn2:Below W1.heap.size W1 W2:=by rw[hW2];exact(Below.refl _ _).alloc (Nat.le_refl _) _
 have hg2:W2.heap[w.heap.size+1]? = some (.cells #[.int .i64 0,.int .i64 0,.string (⟨#[]⟩:ByteArray),.slice none 0 0] 32 (0,0)):=by rw[hW2,← hs1];exact alloc_lastV _ _
 have hs2:W2.heap.size=w.heap.size+2:=by rw[hW2];simp[hs1]
 have hgn:=(hn2.block _ (Array.getElem?_eq_some_iff.1 hg1).1).trans hg1
 have hb2:Below w.heap.size w W2:=hn1.trans (hn2.mono hn1.size)
 obtain⟨⟨b0,b1,b2,b3⟩,b4,b5,b6,b7⟩:=box8 hgn
 have HK:=Lib.hid (Kd.C_below hOk hb2)
 have HR:=Lib.hid (Kd.C_below hOr hb2)
 have HGN:=Lib.hid hgn
 have HG2:=Lib.hid hg2
 have HB2:=Lib.hid hb2
 have HS2:=Lib.hid hs2
 have HK8:=Lib.hid hk8
 rw[hW2,hW1]at b0 b1 b2 b3 b4 b5 b6 b7
 rw[hW1]at hW2
 have HW2:=Lib.hid hW2
 clear hW1 hW2 hn1 hg1 hs1 hn2 hg2 hs2 hgn hb2 hO hOk hOr hk8
 go_enter Tryz.func255,Tryz.ntmps255
 go_wp2_with fail
 rw[← HW2.out]
 clear b0 b1 b2 b3 b4 b5 b6 b7
 go_loopw [3,9] (fun v i wr=>∃ k:Nat,i = .int .i64 (k:Int)∧k≤kds.length∧rC wr W2.heap.size v ((kds.take k).map kidC)∧Below W2.heap.size W2 wr) (fun _ i _=>kds.length - (intOf i).toNat)
 case atStart=>exact⟨0,rfl,Nat.zero_le _,Kd.R_nil _ _ _ _ _,Below.refl _ _⟩
 case round=>
  obtain⟨i,rfl,hi,hrow,hbe⟩:=hrel
  have HROW:=Lib.hid hrow
  have HBE:=Lib.hid hbe
  by_cases hil:i < kds.length
  ·obtain⟨x,hx⟩:∃ x,kds[i]? = some x:=⟨_,List.getElem?_eq_getElem hil⟩
   obtain⟨ad,rfl,c0,c1,hbk⟩:=kid_at (Kd.C_below HK.out hbe) hx
   have hx8:=HK8.out x (List.mem_of_getElem? hx)
   have HX:=Lib.hid hx
   have hlen:((kds.take i).map kidC).length≤1000000:=by rw[List.length_map,List.length_take];omega
   have HLEN:=Lib.hid hlen
   have hwx:IntKind.i64.wrap x.f0=x.f0:=by rw[IntKind.wrap_i64];omega
   clear hx hlen hrow hbe hx8
   go_wp2_with fail
   obtain⟨W7,hW7⟩:∃ W7,W7=wr.alloc (.cells #[.int .u8 x.f0,.string x.f1] 115):=⟨_,rfl⟩
   rw[← hW7]
   have hb7:Below wr.heap.size wr W7:=by rw[hW7];exact(Below.refl _ _).alloc (Nat.le_refl _) _
   have hx7:W7.heap[wr.heap.size]? = some (.cells #[.int .u8 x.f0,.string x.f1] 115 (0,0)):=by rw[hW7];exact alloc_lastV _ _
   have HB7:=Lib.hid hb7
   have hcl:∀ W,Below W7.heap.size W7 W→W.cell? ⟨wr.heap.size,0,none⟩=some (.int .u8 x.f0)∧W.cell? ⟨wr.heap.size,1,none⟩=some (.string x.f1):=fun W hW=>by
    exact box2 ((hW.block _ (Array.getElem?_eq_some_iff.1 hx7).1).trans hx7)
   have HCL:=Lib.hid hcl
   clear hcl hb7 hx7 hW7 c0 c1 hbk
   refine' wp_region_factsM (S:=(fun _ W=>Below W7.heap.size W7 W)) (fun _ W W'=>Below W.heap.size W W') [eqM _,eqM _,eqM (.int .u8 x.f0),eqM (.int .i64 x.f0),cellF W7.heap.size (numC x.f0),eqM _,eqM (.string x.f1),cellF W7.heap.size (textC x.f1),litC W7.heap.size [numC x.f0,textC x.f1],cellF W7.heap.size (kidC x),litC W7.heap.size [kidC x]] (by kernel_rfl) (by kernel_rfl) ?hst ?h0 (Ord.stepsM_cons ?s0 (Ord.stepsM_cons ?s1 (Ord.stepsM_cons ?s2 (Ord.stepsM_cons ?s3 (Ord.stepsM_cons ?s4 (Ord.stepsM_cons ?s5 (Ord.stepsM_cons ?s6 (Ord.stepsM_cons ?s7 (Ord.stepsM_cons ?s8 (Ord.stepsM_cons ?s9 (Ord.stepsM_cons ?s10 (Ord.stepsM_nil)))))))))))) ?fin
   case s0=>
    intro g W L hL hSW hd
    try simp only[Nat.zero_add,Nat.reduceAdd]at hd ⊢
    with_reducible refine OpGives.pre_reads [] 37 ?_ ?_ ?_
    ·rfl
    ·kernel_rfl
    simp only[List.map_cons,List.map_nil]
    refine OpGives.val (w':=W) ?_ ⟨Below.refl _ _,rfl,hSW⟩
    go_simp
    try with_reducible rfl
   case s1=>
    intro g W L hL hSW hd
    try simp only[Nat.zero_add,Nat.reduceAdd]at hd ⊢
    with_reducible refine OpGives.pre_reads [] 37 ?_ ?_ ?_
    ·rfl
    ·kernel_rfl
    simp only[List.map_cons,List.map_nil]
    refine OpGives.val (w':=W) ?_ ⟨Below.refl _ _,rfl,hSW⟩
    go_simp
    try with_reducible rfl
   case s2=>
    intro g W L hL hSW hd
    try simp only[Nat.zero_add,Nat.reduceAdd]at hd ⊢
    have h1:g 1=_:=hd 1 (by decide) (by kernel_rfl)
    with_reducible refine OpGives.pre_reads [(14,1)] 37 ?_ ?_ ?_
    ·rfl
    ·kernel_rfl
    simp only[List.map_cons,List.map_nil]
    obtain⟨z0,z1⟩:=HCL.out W hSW;refine OpGives.val (v:=.int .u8 x.f0) (w':=W) ?_ ⟨Below.refl _ _,rfl,hSW⟩;go_simp
   case s3=>
    intro g W L hL hSW hd
    try simp only[Nat.zero_add,Nat.reduceAdd]at hd ⊢
    have h2:g 2=_:=hd 2 (by decide) (by kernel_rfl)
    with_reducible refine OpGives.pre_reads [(15,2)] 37 ?_ ?_ ?_
    ·rfl
    ·kernel_rfl
    simp only[List.map_cons,List.map_nil]
    refine OpGives.val (v:=.int .i64 x.f0) (w':=W) ?_ ⟨Below.refl _ _,rfl,hSW⟩;go_simp
   case s4=>
    intro g W L hL hSW hd
    try simp only[Nat.zero_add,Nat.reduceAdd]at hd ⊢
    have h3:g 3=_:=hd 3 (by decide) (by kernel_rfl)
    with_reducible refine OpGives.pre_reads [(16,3)] 37 ?_ ?_ ?_
    ·rfl
    ·kernel_rfl
    simp only[List.map_cons,List.map_nil]
    rw[h3];refine OpGives.call (f:=184) (args:=#[.int .i64 x.f0]) (w':=W) (by go_simp) ((num_R x.f0 0 W).mono fun e W' ⟨he,hb⟩=>⟨_,he,hb,num_F _ _ _,hSW.trans (hb.mono hSW.size)⟩)
   case s5=>
    intro g W L hL hSW hd
    try simp only[Nat.zero_add,Nat.reduceAdd]at hd ⊢
    with_reducible refine OpGives.pre_reads [] 37 ?_ ?_ ?_
    ·rfl
    ·kernel_rfl
    simp only[List.map_cons,List.map_nil]
    refine OpGives.val (w':=W) ?_ ⟨Below.refl _ _,rfl,hSW⟩
    go_simp
    try with_reducible rfl
   case s6=>
    intro g W L hL hSW hd
    try simp only[Nat.zero_add,Nat.reduceAdd]at hd ⊢
    have h5:g 5=_:=hd 5 (by decide) (by kernel_rfl)
    with_reducible refine OpGives.pre_reads [(18,5)] 37 ?_ ?_ ?_
    ·rfl
    ·kernel_rfl
    simp only[List.map_cons,List.map_nil]
    obtain⟨z0,z1⟩:=HCL.out W hSW;refine OpGives.val (v:=.string x.f1) (w':=W) ?_ ⟨Below.refl _ _,rfl,hSW⟩;go_simp
   case s7=>
    intro g W L hL hSW hd
    try simp only[Nat.zero_add,Nat.reduceAdd]at hd ⊢
    have h6:g 6=_:=hd 6 (by decide) (by kernel_rfl)
    with_reducible refine OpGives.pre_reads [(19,6)] 37 ?_ ?_ ?_
    ·rfl
    ·kernel_rfl
    simp only[List.map_cons,List.map_nil]
    rw[h6];refine OpGives.call (f:=93) (args:=#[.string x.f1]) (w':=W) (by go_simp) ((text_R x.f1 0 W).mono fun e W' ⟨he,hb⟩=>⟨_,he,hb,text_F _ _ _,hSW.trans (hb.mono hSW.size)⟩)
   case s8=>
    intro g W L hL hSW hd
    try simp only[Nat.zero_add,Nat.reduceAdd]at hd ⊢
    have h4:=hd 4 (by decide) (by kernel_rfl)
    change (cellF W7.heap.size (numC x.f0)) (g 4) W at h4
    have h7:=hd 7 (by decide) (by kernel_rfl)
    change (cellF W7.heap.size (textC x.f1)) (g 7) W at h7
    with_reducible refine OpGives.pre_reads [(17,4),(20,7)] 37 ?_ ?_ ?_
    ·rfl
    ·kernel_rfl
    simp only[List.map_cons,List.map_nil]
    refine OpGives.val (v:=.slice (some ⟨W.heap.size,0,none⟩) 2 2) (w':=W.alloc (.cells ([g 4,g 7].flatMap fun v=>v.cells.toList).toArray 32)) (exec_buildSlice 30 2 _ rfl (lit_run2 h4 h7 _ (by simp[rdl_cons]))) ⟨(Below.refl _ _).alloc (Nat.le_refl _) _,litC_of (repsM_2 h4 h7) hSW.size,hSW.alloc hSW.size _⟩
   case s9=>
    intro g W L hL hSW hd
    try simp only[Nat.zero_add,Nat.reduceAdd]at hd ⊢
    have h8:=hd 8 (by decide) (by kernel_rfl)
    change (litC W7.heap.size [numC x.f0,textC x.f1]) (g 8) W at h8
    with_reducible refine OpGives.pre_reads [(21,8)] 37 ?_ ?_ ?_
    ·rfl
    ·kernel_rfl
    simp only[List.map_cons,List.map_nil]
    refine OpGives.call (f:=94) (args:=#[g 8]) (w':=W) (by go_simp) ((List_lit h8 (by simp) hSW.size).mono fun e W' ⟨u,he,hf,hb⟩=>⟨u,he,hb,hf,hSW.trans (hb.mono hSW.size)⟩)
   case s10=>
    intro g W L hL hSW hd
    try simp only[Nat.zero_add,Nat.reduceAdd]at hd ⊢
    have h9:=hd 9 (by decide) (by kernel_rfl)
    change (cellF W7.heap.size (kidC x)) (g 9) W at h9
    with_reducible refine OpGives.pre_reads [(22,9)] 37 ?_ ?_ ?_
    ·rfl
    ·kernel_rfl
    simp only[List.map_cons,List.map_nil]
    refine OpGives.val (v:=.slice (some ⟨W.heap.size,0,none⟩) 1 1) (w':=W.alloc (.cells ([g 9].flatMap fun v=>v.cells.toList).toArray 32)) (exec_buildSlice 30 1 _ rfl (lit_run1 h9 _ (by simp[rdl_cons]))) ⟨(Below.refl _ _).alloc (Nat.le_refl _) _,litC_of (repsM_1 h9) hSW.size,hSW.alloc hSW.size _⟩
   case hst=>
    refine fun i j v w w' _ h hR=>st_of (R:=fun W W'=>Below W.heap.size W W') ?_ i v w w' h hR
    repeat' first
     | exact trivial
     | with_reducible refine StL.eq ?_
     | refine⟨fun v w w' h hR=>cellF_below h hR,?_⟩
     | refine⟨fun v w w' h hR=>litC_below h hR,?_⟩
   case h0=>exact(Below.refl _ _).drew
   case fin=>
    intro v' W L hL hSW hf
    have h10:=hf 10 (Nat.lt_of_lt_of_eq (by decide:10 < 11) rfl)
    have h0:v' 0=_:=hf 0 (Nat.lt_of_lt_of_eq (by decide:0 < 11) rfl)
    change litC W7.heap.size [kidC x] (v' 10) W at h10
    clear hf
    generalize hF:Ord.pre _ _ v' _=F
    rw[Ord.pre_lit [some 13,some 14,some 15,some 16,some 17,some 18,some 19,some 20,some 21,some 22,some 23]
     (by kernel_rfl)]at hF
    simp only[Ord.puts,Nat.zero_add,Nat.reduceAdd]at hF
    subst hF
    rw[h0]
    have hb7W:=HB7.out.trans (hSW.mono HB7.out.size)
    have hrW:=Kd.R_below HROW.out (⟨hb7W.os,hb7W.tape,hb7W.output,hb7W.size,hb7W.block⟩)
    obtain⟨v8,W8,hr8,hg8,hR8⟩:=append_lit (b0:=W2.heap.size) (lo:=W7.heap.size) hrW (fun k hk=>Nat.lt_of_lt_of_le (rC_own HROW.out k hk) HB7.out.size) (Nat.le_trans HBE.out.size HB7.out.size) h10 HLEN.out 30
    have hB8:=grown_below hrW hg8 (HBE.out.trans (hb7W.mono HBE.out.size)) (Nat.le_trans HBE.out.size hb7W.size)
    have hR8':rC W8 W2.heap.size v8 ((kds.take (i+1)).map kidC):=by
     rw[List.take_add_one,HX.out];simpa using hR8
    have HR8:=Lib.hid hR8'
    have HB8:=Lib.hid hB8
    clear hg8 hR8 hR8' hB8 hrW hb7W hSW h10
    refine any_one (i:=11) (by kernel_rfl) ?_
    refine wpOp_value (v:=v8) (w':=W8) rfl rfl ?_ ?_
    ·refine exec_append (.tmp 13) (.tmp 23) 30 rfl ?_
     have key:∀ a b ty,a=u3→b=v' 10→ty=30→(Builtin.append_ #[30,30] ty #[a,b]).run Tryz.prog W = .ok v8 W8:=by rintro _ _ _ rfl rfl rfl;exact hr8
     refine key _ _ _ ?_ ?_ rfl
     ·go_simp
     ·go_simp
    refine any_one (i:=12) (by kernel_rfl) ?_
    refine wpOp_value (v:=v8) (w':=W8) rfl rfl (by go_simp) ?_
    refine wpAny_done (by kernel_rfl) ?_ _
    try simp only[List.getElem_toArray,List.getElem_cons_succ,List.getElem_cons_zero]
    go_frame
    clear hr8
    go_wp2_with fail
    go_roundw
    case rel=>exact⟨i+1,by go_num,hil,HR8.out,HB8.out⟩
    case measure=>simp[intOf];omega
  ·have hie:i=kds.length:=by omega
   rw[hie,List.take_length]at hrow
   have HROW2:=Lib.hid hrow
   have hcl:∀ W,Below wr.heap.size wr W→(W.cell? ⟨w.heap.size,1,none⟩=some (.string lab)∧W.cell? ⟨w.heap.size,2,none⟩=some (.slice Ar rws.length cr))∧W.heap[w.heap.size+1]? = some (.cells #[.int .i64 0,.int .i64 0,.string (⟨#[]⟩:ByteArray),.slice none 0 0] 32 (0,0))∧Kd.C k174 W Ar rws.length rws∧rC W W2.heap.size u3 (kds.map kidC)∧W2.heap.size≤W.heap.size:=fun W hW=>by
    have h2:Below W2.heap.size W2 W:=HBE.out.trans (hW.mono HBE.out.size)
    obtain⟨⟨_,b1,b2,_⟩,_⟩:=box8 ((h2.block _ (Array.getElem?_eq_some_iff.1 HGN.out).1).trans HGN.out)
    exact⟨⟨b1,b2⟩,(h2.block _ (Array.getElem?_eq_some_iff.1 HG2.out).1).trans HG2.out,Kd.C_below HR.out h2,Kd.R_below HROW2.out hW,h2.size⟩
   have HCL:=Lib.hid hcl
   have hkml:(kds.map kidC).length≤1000000:=by rw[List.length_map];exact hkl
   clear hrow hie hbe hcl
   go_wp2_with fail
   refine' wp_region_factsM (S:=(fun _ W=>Below wr.heap.size wr W)) (fun _ W W'=>Below W.heap.size W W') [cellF W2.heap.size (numC 1),eqM _,eqM (.string lab),cellF W2.heap.size (textC lab),eqM _,eqM (.slice Ar rws.length cr),cellF W2.heap.size (rowsC rws),eqM _,cellF W2.heap.size (listC (kds.map kidC)),litC W2.heap.size [numC 1,textC lab,rowsC rws,listC (kds.map kidC)],cellF W2.heap.size (listC [numC 1,textC lab,rowsC rws,listC (kds.map kidC)])] (by kernel_rfl) (by kernel_rfl) ?hst ?h0 (Ord.stepsM_cons ?s0 (Ord.stepsM_cons ?s1 (Ord.stepsM_cons ?s2 (Ord.stepsM_cons ?s3 (Ord.stepsM_cons ?s4 (Ord.stepsM_cons ?s5 (Ord.stepsM_cons ?s6 (Ord.stepsM_cons ?s7 (Ord.stepsM_cons ?s8 (Ord.stepsM_cons ?s9 (Ord.stepsM_cons ?s10 (Ord.stepsM_nil)))))))))))) ?fin
   case s0=>
    intro g W L hL hSW hd
    try simp only[Nat.zero_add,Nat.reduceAdd]at hd ⊢
    with_reducible refine OpGives.pre_reads [] 37 ?_ ?_ ?_
    ·rfl
    ·kernel_rfl
    simp only[List.map_cons,List.map_nil]
    refine OpGives.call (f:=184) (args:=#[.int .i64 1]) (w':=W) (by go_simp) ((num_R 1 0 W).mono fun e W' ⟨he,hb⟩=>⟨_,he,hb,num_F _ _ _,hSW.trans (hb.mono hSW.size)⟩)
   case s1=>
    intro g W L hL hSW hd
    try simp only[Nat.zero_add,Nat.reduceAdd]at hd ⊢
    with_reducible refine OpGives.pre_reads [] 37 ?_ ?_ ?_
    ·rfl
    ·kernel_rfl
    simp only[List.map_cons,List.map_nil]
    refine OpGives.val (w':=W) ?_ ⟨Below.refl _ _,rfl,hSW⟩
    go_simp
    try with_reducible rfl
   case s2=>
    intro g W L hL hSW hd
    try simp only[Nat.zero_add,Nat.reduceAdd]at hd ⊢
    have h1:g 1=_:=hd 1 (by decide) (by kernel_rfl)
    with_reducible refine OpGives.pre_reads [(27,1)] 37 ?_ ?_ ?_
    ·rfl
    ·kernel_rfl
    simp only[List.map_cons,List.map_nil]
    obtain⟨⟨z1,z2⟩,_⟩:=HCL.out W hSW;refine OpGives.val (v:=.string lab) (w':=W) ?_ ⟨Below.refl _ _,rfl,hSW⟩;go_simp
   case s3=>
    intro g W L hL hSW hd
    try simp only[Nat.zero_add,Nat.reduceAdd]at hd ⊢
    have h2:g 2=_:=hd 2 (by decide) (by kernel_rfl)
    with_reducible refine OpGives.pre_reads [(28,2)] 37 ?_ ?_ ?_
    ·rfl
    ·kernel_rfl
    simp only[List.map_cons,List.map_nil]
    rw[h2];refine OpGives.call (f:=93) (args:=#[.string lab]) (w':=W) (by go_simp) ((text_R lab 0 W).mono fun e W' ⟨he,hb⟩=>⟨_,he,hb,text_F _ _ _,hSW.trans (hb.mono hSW.size)⟩)
   case s4=>
    intro g W L hL hSW hd
    try simp only[Nat.zero_add,Nat.reduceAdd]at hd ⊢
    with_reducible refine OpGives.pre_reads [] 37 ?_ ?_ ?_
    ·rfl
    ·kernel_rfl
    simp only[List.map_cons,List.map_nil]
    refine OpGives.val (w':=W) ?_ ⟨Below.refl _ _,rfl,hSW⟩
    go_simp
    try with_reducible rfl
   case s5=>
    intro g W L hL hSW hd
    try simp only[Nat.zero_add,Nat.reduceAdd]at hd ⊢
    have h4:g 4=_:=hd 4 (by decide) (by kernel_rfl)
    with_reducible refine OpGives.pre_reads [(30,4)] 37 ?_ ?_ ?_
    ·rfl
    ·kernel_rfl
    simp only[List.map_cons,List.map_nil]
    obtain⟨⟨z1,z2⟩,_⟩:=HCL.out W hSW;refine OpGives.val (v:=.slice Ar rws.length cr) (w':=W) ?_ ⟨Below.refl _ _,rfl,hSW⟩;go_simp
   case s6=>
    intro g W L hL hSW hd
    try simp only[Nat.zero_add,Nat.reduceAdd]at hd ⊢
    have h5:g 5=_:=hd 5 (by decide) (by kernel_rfl)
    with_reducible refine OpGives.pre_reads [(31,5)] 37 ?_ ?_ ?_
    ·rfl
    ·kernel_rfl
    simp only[List.map_cons,List.map_nil]
    rw[h5];refine OpGives.call (f:=257) (args:=#[.slice Ar rws.length cr]) (w':=W) (by go_simp) ((rows_calls rws Ar cr W (HCL.out W hSW).2.2.1 hOlr hrl).mono fun e W' ⟨u,he,hf,hb⟩=>⟨u,he,hb,cellF_lower hf (HCL.out W hSW).2.2.2.2,hSW.trans (hb.mono hSW.size)⟩)
   case s7=>
    intro g W L hL hSW hd
    try simp only[Nat.zero_add,Nat.reduceAdd]at hd ⊢
    with_reducible refine OpGives.pre_reads [] 37 ?_ ?_ ?_
    ·rfl
    ·kernel_rfl
    simp only[List.map_cons,List.map_nil]
    refine OpGives.val (w':=W) ?_ ⟨Below.refl _ _,rfl,hSW⟩
    go_simp
    try with_reducible rfl
   case s8=>
    intro g W L hL hSW hd
    try simp only[Nat.zero_add,Nat.reduceAdd]at hd ⊢
    have h7:g 7=_:=hd 7 (by decide) (by kernel_rfl)
    with_reducible refine OpGives.pre_reads [(33,7)] 37 ?_ ?_ ?_
    ·rfl
    ·kernel_rfl
    simp only[List.map_cons,List.map_nil]
    rw[h7];refine OpGives.call (f:=94) (args:=#[u3]) (w':=W) (by go_simp) ((List_own (HCL.out W hSW).2.2.2.1 hkml (HCL.out W hSW).2.2.2.2).mono fun e W' ⟨u,he,hf,hb⟩=>⟨u,he,hb,hf,hSW.trans (hb.mono hSW.size)⟩)
   case s9=>
    intro g W L hL hSW hd
    try simp only[Nat.zero_add,Nat.reduceAdd]at hd ⊢
    have h0:=hd 0 (by decide) (by kernel_rfl)
    change (cellF W2.heap.size (numC 1)) (g 0) W at h0
    have h3:=hd 3 (by decide) (by kernel_rfl)
    change (cellF W2.heap.size (textC lab)) (g 3) W at h3
    have h6:=hd 6 (by decide) (by kernel_rfl)
    change (cellF W2.heap.size (rowsC rws)) (g 6) W at h6
    have h8:=hd 8 (by decide) (by kernel_rfl)
    change (cellF W2.heap.size (listC (kds.map kidC))) (g 8) W at h8
    with_reducible refine OpGives.pre_reads [(26,0),(29,3),(32,6),(34,8)] 37 ?_ ?_ ?_
    ·rfl
    ·kernel_rfl
    simp only[List.map_cons,List.map_nil]
    refine OpGives.val (v:=.slice (some ⟨W.heap.size,0,none⟩) 4 4) (w':=W.alloc (.cells ([g 0,g 3,g 6,g 8].flatMap fun v=>v.cells.toList).toArray 32)) (exec_buildSlice 30 4 _ rfl (lit_run4 h0 h3 h6 h8 _ (by simp[rdl_cons]))) ⟨(Below.refl _ _).alloc (Nat.le_refl _) _,litC_of (repsM_4 h0 h3 h6 h8) (HCL.out W hSW).2.2.2.2,hSW.alloc hSW.size _⟩
   case s10=>
    intro g W L hL hSW hd
    try simp only[Nat.zero_add,Nat.reduceAdd]at hd ⊢
    have h9:=hd 9 (by decide) (by kernel_rfl)
    change (litC W2.heap.size [numC 1,textC lab,rowsC rws,listC (kds.map kidC)]) (g 9) W at h9
    with_reducible refine OpGives.pre_reads [(35,9)] 37 ?_ ?_ ?_
    ·rfl
    ·kernel_rfl
    simp only[List.map_cons,List.map_nil]
    refine OpGives.call (f:=94) (args:=#[g 9]) (w':=W) (by go_simp) ((List_lit h9 (by simp) (HCL.out W hSW).2.2.2.2).mono fun e W' ⟨u,he,hf,hb⟩=>⟨u,he,hb,hf,hSW.trans (hb.mono hSW.size)⟩)
   case hst=>
    refine fun i j v w w' _ h hR=>st_of (R:=fun W W'=>Below W.heap.size W W') ?_ i v w w' h hR
    repeat' first
     | exact trivial
     | with_reducible refine StL.eq ?_
     | refine⟨fun v w w' h hR=>cellF_below h hR,?_⟩
     | refine⟨fun v w w' h hR=>litC_below h hR,?_⟩
   case h0=>exact(Below.refl _ _).drew
   case fin=>
    intro v' W L hL hSW hf
    have h10:=hf 10 (Nat.lt_of_lt_of_eq (by decide:10 < 11) rfl)
    change cellF W2.heap.size (listC [numC 1,textC lab,rowsC rws,listC (kds.map kidC)]) (v' 10) W at h10
    clear hf
    generalize hF:Ord.pre _ _ v' _=F
    rw[Ord.pre_lit [some 26,some 27,some 28,some 29,some 30,some 31,some 32,some 33,some 34,some 35,some 36]
     (by kernel_rfl)]at hF
    simp only[Ord.puts,Nat.zero_add,Nat.reduceAdd]at hF
    subst hF
    obtain⟨v3,e10,hR3⟩:=h10
    obtain⟨A3,c3,rfl⟩:=R_slice hR3
    rw[e10]
    have hgb:=(HCL.out W hSW).2.1
    obtain⟨⟨z0,z1,z2,z3⟩,f0,f1,f2,f3⟩:=box4 hgb
    have hbw:Below w.heap.size w W:=HB2.out.trans ((HBE.out.trans (hSW.mono HBE.out.size)).mono HB2.out.size)
    have HGB:=Lib.hid hgb
    have HBW:=Lib.hid hbw
    have HR3:=Lib.hid hR3
    clear hgb hbw hR3 hSW e10
    refine any_one (i:=11) (by kernel_rfl) ?_
    refine wpOp_skip (w':=put4 W (w.heap.size+1) (.int .i64 3) (.int .i64 0) (.string (⟨#[]⟩:ByteArray)) (.slice A3 (listC [numC 1,textC lab,rowsC rws,listC (kds.map kidC)]).f3.length c3)) rfl rfl (by unfold put4 listC;go_simp) ?_
    refine wpAny_done (by kernel_rfl) ?_ _
    try simp only[List.getElem_toArray,List.getElem_cons_succ,List.getElem_cons_zero]
    go_frame
    have hgf:=four_put HGB.out (.int .i64 3) (.int .i64 0) (.string (⟨#[]⟩:ByteArray)) (.slice A3 (listC [numC 1,textC lab,rowsC rws,listC (kds.map kidC)]).f3.length c3)
    have hrf:=rC_put HR3.out (g:=w.heap.size+1) (b0:=w.heap.size) (by have:=HS2.out;omega) (by have:=HS2.out;omega) (.int .i64 3) (.int .i64 0) (.string (⟨#[]⟩:ByteArray)) (.slice A3 (listC [numC 1,textC lab,rowsC rws,listC (kds.map kidC)]).f3.length c3)
    have hbf:=put4_below' HBW.out (g:=w.heap.size+1) (by omega) (.int .i64 3) (.int .i64 0) (.string (⟨#[]⟩:ByteArray)) (.slice A3 (listC [numC 1,textC lab,rowsC rws,listC (kds.map kidC)]).f3.length c3)
    have HGF:=Lib.hid (show(put4 W (w.heap.size+1) (.int .i64 3) (.int .i64 0) (.string (⟨#[]⟩:ByteArray)) (.slice A3 (listC [numC 1,textC lab,rowsC rws,listC (kds.map kidC)]).f3.length c3)).heap[w.heap.size+1]? = _ from hgf)
    have HRF:=Lib.hid hrf
    have HBF:=Lib.hid hbf
    clear hgf hrf hbf z0 z1 z2 z3 f0 f1 f2 f3 HGB HBW HR3
    generalize put4 W (w.heap.size+1) (.int .i64 3) (.int .i64 0) (.string (⟨#[]⟩:ByteArray)) (.slice A3 (listC [numC 1,textC lab,rowsC rws,listC (kds.map kidC)]).f3.length c3)=WF at *
    go_wp2_with fail
    refine bodyPost_ret (results_cell_row rfl _ _ (w.heap.size+1) 32 #[.int .i64 3,.int .i64 0,.string (⟨#[]⟩:ByteArray),.slice A3 (listC [numC 1,textC lab,rowsC rws,listC (kds.map kidC)]).f3.length c3] (0,0) _ rfl HGF.out Tryz.underlying32 rfl (by kernel_rfl)) rfl ?_
    exact⟨_,rfl,⟨_,rfl,HRF.out⟩,HBF.out⟩
end Go.Proofs.YtlmabbigfdbmbaaGreatDoor.PShelfNil
namespace Go.Proofs.YtlmabbigfdbmbaaGreatDoor.PShelfNil
open Go.RowKit Go.Proofs.YtlmabbigfdbmbaaGreatDoor.Ord Go.Proofs.YtlmabbigfdbmbaaGreatDoor.Obj Go.Proofs.YtlmabbigfdbmbaaGreatDoorW.PrintWords Go.Proofs.YtlmabbigfdbmbaaGreatDoorW.PrintLast Go.Proofs.YtlmabbigfdbmbaaGreatDoorW.PrintMore
attribute [local irreducible] OpGives
attribute [local go_sem] rdl_const rdl_func rdl_global rdl_nil rdl_cons
def commitC(o:Ob):S32:=listC [numC 2,listC (o.parents.map textC),numC o.stamp,textC o.note,textC o.root]
set_option maxHeartbeats 16000000 in
set_option maxRecDepth 100000 in
theorem ccell_calls(o:Ob)(Ar:Option Addr)(cr:Nat)(Ak:Option Addr)(ck:Nat)(Ap:Option Addr)(cp:Nat)(w:World)(hO:ObAt w o Ar cr Ak ck Ap cp)(hpl:o.parents.length≤1000000) :
  Calls Tryz.prog 258 #[.agg (obV o Ar cr Ak ck Ap cp)] w (CellPostR w.heap.size (commitC o) w):=by
 obtain⟨knd,lab,rws,kds,prs,stp,nte,rot⟩:=o
 unfold obV commitC
 simp only at hO hpl ⊢
 have hOp:=hO.p
 simp only at hOp
 obtain⟨W1,hW1⟩:∃ W1,W1=w.alloc (.cells #[.int .i64 knd,.string lab,.slice Ar rws.length cr,.slice Ak kds.length ck,.slice Ap prs.length cp,.int .i64 stp,.string nte,.string rot] 198):=⟨_,rfl⟩
 have hn1:Below w.heap.size w W1:=by rw[hW1];exact(Below.refl _ _).alloc (Nat.le_refl _) _
 have hg1:W1.heap[w.heap.size]? = some (.cells #[.int .i64 knd,.string lab,.slice Ar rws.length cr,.slice Ak kds.length ck,.slice Ap prs.length cp,.int .i64 stp,.string nte,.string rot] 198 (0,0)):=by rw[hW1];exact alloc_lastV _ _
 have hs1:W1.heap.size=w.heap.size+1:=by rw[hW1];simp
 obtain⟨W2,hW2⟩:∃ W2,W2=W1.alloc (.cells #[.int .i64 0,.int .i64 0,.string (⟨#[]⟩:ByteArray),.slice none 0 0] 32):=⟨_,rfl⟩
 have hn2:Below W1.heap.size W1 W2:=by rw[hW2];exact(Below.refl _ _).alloc (Nat.le_refl _) _
 have hg2:W2.heap[w.heap.size+1]? = some (.cells #[.int .i64 0,.int .i64 0,.string (⟨#[]⟩:ByteArray),.slice none 0 0] 32 (0,0)):=by rw[hW2,← hs1];exact alloc_lastV _ _
 have hs2:W2.heap.size=w.heap.size+2:=by rw[hW2];simp[hs1]
 have hgn:=(hn2.block _ (Array.getElem?_eq_some_iff.1 hg1).1).trans hg1
 have hb2:Below w.heap.size w W2:=hn1.trans (hn2.mono hn1.size)
 obtain⟨⟨b0,b1,b2,b3⟩,b4,b5,b6,b7⟩:=box8 hgn
 have HP:=Lib.hid (Kd.C_below hOp hb2)
 have HGN:=Lib.hid hgn
 have HG2:=Lib.hid hg2
 have HB2:=Lib.hid hb2
 have HS2:=Lib.hid hs2
 rw[hW2,hW1]at b0 b1 b2 b3 b4 b5 b6 b7
 rw[hW1]at hW2
 have HW2:=Lib.hid hW2
 clear hW1 hW2 hn1 hg1 hs1 hn2 hg2 hs2 hgn hb2 hO hOp
 go_enter Tryz.func258,Tryz.ntmps258
 go_wp2_with fail
 rw[← HW2.out]
 clear b0 b1 b2 b3 b4 b5 b6 b7
 go_loopw [3,9] (fun v i wr=>∃ k:Nat,i = .int .i64 (k:Int)∧k≤prs.length∧rC wr W2.heap.size v ((prs.take k).map textC)∧Below W2.heap.size W2 wr) (fun _ i _=>prs.length - (intOf i).toNat)
 case atStart=>exact⟨0,rfl,Nat.zero_le _,Kd.R_nil _ _ _ _ _,Below.refl _ _⟩
 case round=>
  obtain⟨i,rfl,hi,hrow,hbe⟩:=hrel
  have HROW:=Lib.hid hrow
  have HBE:=Lib.hid hbe
  by_cases hil:i < prs.length
  ·obtain⟨x,hx⟩:∃ x,prs[i]? = some x:=⟨_,List.getElem?_eq_getElem hil⟩
   obtain⟨ad,rfl,c0,hbk⟩:=str_at (Kd.C_below HP.out hbe) hx
   have HX:=Lib.hid hx
   have hlen:((prs.take i).map textC).length≤1000000:=by rw[List.length_map,List.length_take];omega
   have HLEN:=Lib.hid hlen
   clear hx hlen hrow hbe
   go_wp2_with fail
   clear c0 hbk
   refine(text_R x 0 wr).mono ?_
   rintro e W4 ⟨rfl,hb4⟩
   obtain⟨W5,hW5⟩:∃ W5,W5=W4.alloc (.cells #[.int .i64 2,.int .i64 0,.string x,.slice none 0 0] 32):=⟨_,rfl⟩
   have hl5:litC W4.heap.size [textC x] (.slice (some ⟨W4.heap.size,0,none⟩) 1 1) W5:=by rw[hW5];exact litC_of (repsM_1 (text_F x _ _)) (Nat.le_refl _)
   have hb5:Below W4.heap.size W4 W5:=by rw[hW5];exact(Below.refl _ _).alloc (Nat.le_refl _) _
   have hbw:Below wr.heap.size wr W5:=hb4.trans (hb5.mono hb4.size)
   have hrW:=Kd.R_below HROW.out hbw
   obtain⟨v8,W8,hr8,hg8,hR8⟩:=append_lit (b0:=W2.heap.size) (lo:=W4.heap.size) hrW (fun k hk=>Nat.lt_of_lt_of_le (rC_own HROW.out k hk) hb4.size) (Nat.le_trans HBE.out.size hb4.size) hl5 HLEN.out 30
   have hB8:=grown_below hrW hg8 (HBE.out.trans (hbw.mono HBE.out.size)) (Nat.le_trans HBE.out.size hbw.size)
   have hR8':rC W8 W2.heap.size v8 ((prs.take (i+1)).map textC):=by
    rw[List.take_add_one,HX.out];simpa using hR8
   have HR8:=Lib.hid hR8'
   have HB8:=Lib.hid hB8
   rw[hW5]at hr8
   have HAPP:=Lib.hid hr8
   clear hg8 hR8 hR8' hB8 hrW hbw hl5 hb5 hW5 hb4 hr8
   go_wp2_with (refine wpList_value rfl (exec_append _ _ 30 rfl HAPP.out) ?_)
   go_roundw
   case rel=>exact⟨i+1,by go_num,hil,HR8.out,HB8.out⟩
   case measure=>simp[intOf];omega
  ·have hie:i=prs.length:=by omega
   rw[hie,List.take_length]at hrow
   have HROW2:=Lib.hid hrow
   have hcl:∀ W,Below wr.heap.size wr W→(W.cell? ⟨w.heap.size,5,none⟩=some (.int .i64 stp)∧W.cell? ⟨w.heap.size,6,none⟩=some (.string nte)∧W.cell? ⟨w.heap.size,7,none⟩=some (.string rot))∧W.heap[w.heap.size+1]? = some (.cells #[.int .i64 0,.int .i64 0,.string (⟨#[]⟩:ByteArray),.slice none 0 0] 32 (0,0))∧rC W W2.heap.size u3 (prs.map textC)∧W2.heap.size≤W.heap.size:=fun W hW=>by
    have h2:Below W2.heap.size W2 W:=HBE.out.trans (hW.mono HBE.out.size)
    obtain⟨_,_,b5,b6,b7⟩:=box8 ((h2.block _ (Array.getElem?_eq_some_iff.1 HGN.out).1).trans HGN.out)
    exact⟨⟨b5,b6,b7⟩,(h2.block _ (Array.getElem?_eq_some_iff.1 HG2.out).1).trans HG2.out,Kd.R_below HROW2.out hW,h2.size⟩
   have HCL:=Lib.hid hcl
   have hkml:(prs.map textC).length≤1000000:=by rw[List.length_map];exact hpl
   clear hrow hie hbe hcl
   go_wp2_with fail
   refine' wp_region_factsM (S:=(fun _ W=>Below wr.heap.size wr W)) (fun _ W W'=>Below W.heap.size W W') [cellF W2.heap.size (numC 2),eqM _,cellF W2.heap.size (listC (prs.map textC)),eqM _,eqM (.int .i64 stp),cellF W2.heap.size (numC stp),eqM _,eqM (.string nte),cellF W2.heap.size (textC nte),eqM _,eqM (.string rot),cellF W2.heap.size (textC rot),litC W2.heap.size [numC 2,listC (prs.map textC),numC stp,textC nte,textC rot],cellF W2.heap.size (listC [numC 2,listC (prs.map textC),numC stp,textC nte,textC rot])] (by kernel_rfl) (by kernel_rfl) ?hst ?h0 (Ord.stepsM_cons ?s0 (Ord.stepsM_cons ?s1 (Ord.stepsM_cons ?s2 (Ord.stepsM_cons ?s3 (Ord.stepsM_cons ?s4 (Ord.stepsM_cons ?s5 (Ord.stepsM_cons ?s6 (Ord.stepsM_cons ?s7 (Ord.stepsM_cons ?s8 (Ord.stepsM_cons ?s9 (Ord.stepsM_cons ?s10 (Ord.stepsM_cons ?s11 (Ord.stepsM_cons ?s12 (Ord.stepsM_cons ?s13 (Ord.stepsM_nil))))))))))))))) ?fin
   case s0=>
    intro g W L hL hSW hd
    try simp only[Nat.zero_add,Nat.reduceAdd]at hd ⊢
    with_reducible refine OpGives.pre_reads [] 33 ?_ ?_ ?_
    ·rfl
    ·kernel_rfl
    simp only[List.map_cons,List.map_nil]
    refine OpGives.call (f:=184) (args:=#[.int .i64 2]) (w':=W) (by go_simp) ((num_R 2 0 W).mono fun e W' ⟨he,hb⟩=>⟨_,he,hb,num_F _ _ _,hSW.trans (hb.mono hSW.size)⟩)
   case s1=>
    intro g W L hL hSW hd
    try simp only[Nat.zero_add,Nat.reduceAdd]at hd ⊢
    with_reducible refine OpGives.pre_reads [] 33 ?_ ?_ ?_
    ·rfl
    ·kernel_rfl
    simp only[List.map_cons,List.map_nil]
    refine OpGives.val (w':=W) ?_ ⟨Below.refl _ _,rfl,hSW⟩
    go_simp
    try with_reducible rfl
   case s2=>
    intro g W L hL hSW hd
    try simp only[Nat.zero_add,Nat.reduceAdd]at hd ⊢
    have h1:g 1=_:=hd 1 (by decide) (by kernel_rfl)
    with_reducible refine OpGives.pre_reads [(20,1)] 33 ?_ ?_ ?_
    ·rfl
    ·kernel_rfl
    simp only[List.map_cons,List.map_nil]
    rw[h1];refine OpGives.call (f:=94) (args:=#[u3]) (w':=W) (by go_simp) ((List_own (HCL.out W hSW).2.2.1 hkml (HCL.out W hSW).2.2.2).mono fun e W' ⟨u,he,hf,hb⟩=>⟨u,he,hb,hf,hSW.trans (hb.mono hSW.size)⟩)
   case s3=>
    intro g W L hL hSW hd
    try simp only[Nat.zero_add,Nat.reduceAdd]at hd ⊢
    with_reducible refine OpGives.pre_reads [] 33 ?_ ?_ ?_
    ·rfl
    ·kernel_rfl
    simp only[List.map_cons,List.map_nil]
    refine OpGives.val (w':=W) ?_ ⟨Below.refl _ _,rfl,hSW⟩
    go_simp
    try with_reducible rfl
   case s4=>
    intro g W L hL hSW hd
    try simp only[Nat.zero_add,Nat.reduceAdd]at hd ⊢
    have h3:g 3=_:=hd 3 (by decide) (by kernel_rfl)
    with_reducible refine OpGives.pre_reads [(22,3)] 33 ?_ ?_ ?_
    ·rfl
    ·kernel_rfl
    simp only[List.map_cons,List.map_nil]
    obtain⟨⟨z1,z2,z3⟩,_⟩:=HCL.out W hSW;refine OpGives.val (v:=.int .i64 stp) (w':=W) ?_ ⟨Below.refl _ _,rfl,hSW⟩;go_simp
   case s5=>
    intro g W L hL hSW hd
    try simp only[Nat.zero_add,Nat.reduceAdd]at hd ⊢
    have h4:g 4=_:=hd 4 (by decide) (by kernel_rfl)
    with_reducible refine OpGives.pre_reads [(23,4)] 33 ?_ ?_ ?_
    ·rfl
    ·kernel_rfl
    simp only[List.map_cons,List.map_nil]
    rw[h4];refine OpGives.call (f:=184) (args:=#[.int .i64 stp]) (w':=W) (by go_simp) ((num_R stp 0 W).mono fun e W' ⟨he,hb⟩=>⟨_,he,hb,num_F _ _ _,hSW.trans (hb.mono hSW.size)⟩)
   case s6=>
    intro g W L hL hSW hd
    try simp only[Nat.zero_add,Nat.reduceAdd]at hd ⊢
    with_reducible refine OpGives.pre_reads [] 33 ?_ ?_ ?_
    ·rfl
    ·kernel_rfl
    simp only[List.map_cons,List.map_nil]
    refine OpGives.val (w':=W) ?_ ⟨Below.refl _ _,rfl,hSW⟩
    go_simp
    try with_reducible rfl
   case s7=>
    intro g W L hL hSW hd
    try simp only[Nat.zero_add,Nat.reduceAdd]at hd ⊢
    have h6:g 6=_:=hd 6 (by decide) (by kernel_rfl)
    with_reducible refine OpGives.pre_reads [(25,6)] 33 ?_ ?_ ?_
    ·rfl
    ·kernel_rfl
    simp only[List.map_cons,List.map_nil]
    obtain⟨⟨z1,z2,z3⟩,_⟩:=HCL.out W hSW;refine OpGives.val (v:=.string nte) (w':=W) ?_ ⟨Below.refl _ _,rfl,hSW⟩;go_simp
   case s8=>
    intro g W L hL hSW hd
    try simp only[Nat.zero_add,Nat.reduceAdd]at hd ⊢
    have h7:g 7=_:=hd 7 (by decide) (by kernel_rfl)
    with_reducible refine OpGives.pre_reads [(26,7)] 33 ?_ ?_ ?_
    ·rfl
    ·kernel_rfl
    simp only[List.map_cons,List.map_nil]
    rw[h7];refine OpGives.call (f:=93) (args:=#[.string nte]) (w':=W) (by go_simp) ((text_R nte 0 W).mono fun e W' ⟨he,hb⟩=>⟨_,he,hb,text_F _ _ _,hSW.trans (hb.mono hSW.size)⟩)
   case s9=>
    intro g W L hL hSW hd
    try simp only[Nat.zero_add,Nat.reduceAdd]at hd ⊢
    with_reducible refine OpGives.pre_reads [] 33 ?_ ?_ ?_
    ·rfl
    ·kernel_rfl
    simp only[List.map_cons,List.map_nil]
    refine OpGives.val (w':=W) ?_ ⟨Below.refl _ _,rfl,hSW⟩
    go_simp
    try with_reducible rfl
   case s10=>
    intro g W L hL hSW hd
    try simp only[Nat.zero_add,Nat.reduceAdd]at hd ⊢
    have h9:g 9=_:=hd 9 (by decide) (by kernel_rfl)
    with_reducible refine OpGives.pre_reads [(28,9)] 33 ?_ ?_ ?_
    ·rfl
    ·kernel_rfl
    simp only[List.map_cons,List.map_nil]
    obtain⟨⟨z1,z2,z3⟩,_⟩:=HCL.out W hSW;refine OpGives.val (v:=.string rot) (w':=W) ?_ ⟨Below.refl _ _,rfl,hSW⟩;go_simp
   case s11=>
    intro g W L hL hSW hd
    try simp only[Nat.zero_add,Nat.reduceAdd]at hd ⊢
    have h10:g 10=_:=hd 10 (by decide) (by kernel_rfl)
    with_reducible refine OpGives.pre_reads [(29,10)] 33 ?_ ?_ ?_
    ·rfl
    ·kernel_rfl
    simp only[List.map_cons,List.map_nil]
    rw[h10];refine OpGives.call (f:=93) (args:=#[.string rot]) (w':=W) (by go_simp) ((text_R rot 0 W).mono fun e W' ⟨he,hb⟩=>⟨_,he,hb,text_F _ _ _,hSW.trans (hb.mono hSW.size)⟩)
   case s12=>
    intro g W L hL hSW hd
    try simp only[Nat.zero_add,Nat.reduceAdd]at hd ⊢
    have h0:=hd 0 (by decide) (by kernel_rfl)
    change (cellF W2.heap.size (numC 2)) (g 0) W at h0
    have h2:=hd 2 (by decide) (by kernel_rfl)
    change (cellF W2.heap.size (listC (prs.map textC))) (g 2) W at h2
    have h5:=hd 5 (by decide) (by kernel_rfl)
    change (cellF W2.heap.size (numC stp)) (g 5) W at h5
    have h8:=hd 8 (by decide) (by kernel_rfl)
    change (cellF W2.heap.size (textC nte)) (g 8) W at h8
    have h11:=hd 11 (by decide) (by kernel_rfl)
    change (cellF W2.heap.size (textC rot)) (g 11) W at h11
    with_reducible refine OpGives.pre_reads [(19,0),(21,2),(24,5),(27,8),(30,11)] 33 ?_ ?_ ?_
    ·rfl
    ·kernel_rfl
    simp only[List.map_cons,List.map_nil]
    refine OpGives.val (v:=.slice (some ⟨W.heap.size,0,none⟩) 5 5) (w':=W.alloc (.cells ([g 0,g 2,g 5,g 8,g 11].flatMap fun v=>v.cells.toList).toArray 32)) (exec_buildSlice 30 5 _ rfl (lit_run5 h0 h2 h5 h8 h11 _ (by simp[rdl_cons]))) ⟨(Below.refl _ _).alloc (Nat.le_refl _) _,litC_of (repsM_5 h0 h2 h5 h8 h11) (HCL.out W hSW).2.2.2,hSW.alloc hSW.size _⟩
   case s13=>
    intro g W L hL hSW hd
    try simp only[Nat.zero_add,Nat.reduceAdd]at hd ⊢
    have h12:=hd 12 (by decide) (by kernel_rfl)
    change (litC W2.heap.size [numC 2,listC (prs.map textC),numC stp,textC nte,textC rot]) (g 12) W at h12
    with_reducible refine OpGives.pre_reads [(31,12)] 33 ?_ ?_ ?_
    ·rfl
    ·kernel_rfl
    simp only[List.map_cons,List.map_nil]
    refine OpGives.call (f:=94) (args:=#[g 12]) (w':=W) (by go_simp) ((List_lit h12 (by simp) (HCL.out W hSW).2.2.2).mono fun e W' ⟨u,he,hf,hb⟩=>⟨u,he,hb,hf,hSW.trans (hb.mono hSW.size)⟩)
   case hst=>
    refine fun i j v w w' _ h hR=>st_of (R:=fun W W'=>Below W.heap.size W W') ?_ i v w w' h hR
    repeat' first
     | exact trivial
     | with_reducible refine StL.eq ?_
     | refine⟨fun v w w' h hR=>cellF_below h hR,?_⟩
     | refine⟨fun v w w' h hR=>litC_below h hR,?_⟩
   case h0=>exact(Below.refl _ _).drew
   case fin=>
    intro v' W L hL hSW hf
    have h10:=hf 13 (Nat.lt_of_lt_of_eq (by decide:13 < 14) rfl)
    change cellF W2.heap.size (listC [numC 2,listC (prs.map textC),numC stp,textC nte,textC rot]) (v' 13) W at h10
    clear hf
    generalize hF:Ord.pre _ _ v' _=F
    rw[Ord.pre_lit [some 19,some 20,some 21,some 22,some 23,some 24,some 25,some 26,some 27,some 28,some 29,some 30,some 31,some 32]
     (by kernel_rfl)]at hF
    simp only[Ord.puts,Nat.zero_add,Nat.reduceAdd]at hF
    subst hF
    obtain⟨v3,e10,hR3⟩:=h10
    obtain⟨A3,c3,rfl⟩:=R_slice hR3
    rw[e10]
    have hgb:=(HCL.out W hSW).2.1
    obtain⟨⟨z0,z1,z2,z3⟩,f0,f1,f2,f3⟩:=box4 hgb
    have hbw:Below w.heap.size w W:=HB2.out.trans ((HBE.out.trans (hSW.mono HBE.out.size)).mono HB2.out.size)
    have HGB:=Lib.hid hgb
    have HBW:=Lib.hid hbw
    have HR3:=Lib.hid hR3
    clear hgb hbw hR3 hSW e10
    refine any_one (i:=14) (by kernel_rfl) ?_
    refine wpOp_skip (w':=put4 W (w.heap.size+1) (.int .i64 3) (.int .i64 0) (.string (⟨#[]⟩:ByteArray)) (.slice A3 (listC [numC 2,listC (prs.map textC),numC stp,textC nte,textC rot]).f3.length c3)) rfl rfl (by unfold put4 listC;go_simp) ?_
    refine wpAny_done (by kernel_rfl) ?_ _
    try simp only[List.getElem_toArray,List.getElem_cons_succ,List.getElem_cons_zero]
    go_frame
    have hgf:=four_put HGB.out (.int .i64 3) (.int .i64 0) (.string (⟨#[]⟩:ByteArray)) (.slice A3 (listC [numC 2,listC (prs.map textC),numC stp,textC nte,textC rot]).f3.length c3)
    have hrf:=rC_put HR3.out (g:=w.heap.size+1) (b0:=w.heap.size) (by have:=HS2.out;omega) (by have:=HS2.out;omega) (.int .i64 3) (.int .i64 0) (.string (⟨#[]⟩:ByteArray)) (.slice A3 (listC [numC 2,listC (prs.map textC),numC stp,textC nte,textC rot]).f3.length c3)
    have hbf:=put4_below' HBW.out (g:=w.heap.size+1) (by omega) (.int .i64 3) (.int .i64 0) (.string (⟨#[]⟩:ByteArray)) (.slice A3 (listC [numC 2,listC (prs.map textC),numC stp,textC nte,textC rot]).f3.length c3)
    have HGF:=Lib.hid (show(put4 W (w.heap.size+1) (.int .i64 3) (.int .i64 0) (.string (⟨#[]⟩:ByteArray)) (.slice A3 (listC [numC 2,listC (prs.map textC),numC stp,textC nte,textC rot]).f3.length c3)).heap[w.heap.size+1]? = _ from hgf)
    have HRF:=Lib.hid hrf
    have HBF:=Lib.hid hbf
    clear hgf hrf hbf z0 z1 z2 z3 f0 f1 f2 f3 HGB HBW HR3
    generalize put4 W (w.heap.size+1) (.int .i64 3) (.int .i64 0) (.string (⟨#[]⟩:ByteArray)) (.slice A3 (listC [numC 2,listC (prs.map textC),numC stp,textC nte,textC rot]).f3.length c3)=WF at *
    go_wp2_with fail
    refine bodyPost_ret (results_cell_row rfl _ _ (w.heap.size+1) 32 #[.int .i64 3,.int .i64 0,.string (⟨#[]⟩:ByteArray),.slice A3 (listC [numC 2,listC (prs.map textC),numC stp,textC nte,textC rot]).f3.length c3] (0,0) _ rfl HGF.out Tryz.underlying32 rfl (by kernel_rfl)) rfl ?_
    exact⟨_,rfl,⟨_,rfl,HRF.out⟩,HBF.out⟩
end Go.Proofs.YtlmabbigfdbmbaaGreatDoor.PShelfNil
namespace Go.Proofs.YtlmabbigfdbmbaaGreatDoor.PShelfNil
open Go.RowKit Go.Proofs.YtlmabbigfdbmbaaGreatDoor.Ord Go.Proofs.YtlmabbigfdbmbaaGreatDoor.Obj Go.Proofs.YtlmabbigfdbmbaaGreatDoorW.PrintWords Go.Proofs.YtlmabbigfdbmbaaGreatDoorW.PrintLast Go.Proofs.YtlmabbigfdbmbaaGreatDoorW.PrintMore
attribute [local irreducible] OpGives
def anyK(d:Kd S32):Kd S32 where
 sz:=1
 E:=161 :: d.E
 K:=fun w x cs=>(x.f0=1∧cs = [.iface 3 (.int .i64 x.f1)])∨(x.f0=2∧cs = [.iface 9 (.string x.f2)])∨(x.f0≠1∧x.f0≠2∧∃ A c,cs = [.iface 217 (.slice A x.f3.length c)]∧x.f3.length≤c∧d.C w A x.f3.length x.f3)
 M:=fun w base ok x cs=>(x.f0=1∧cs = [.iface 3 (.int .i64 x.f1)])∨(x.f0=2∧cs = [.iface 9 (.string x.f2)])∨(x.f0≠1∧x.f0≠2∧∃ v,cs = [.iface 217 v]∧d.R 161 w base ok v x.f3)
 K_len:=by
  rintro w x cs (⟨_,rfl⟩ | ⟨_,rfl⟩ | ⟨_,_,A,c,rfl,_⟩)<;>rfl
 K_one:=by
  rintro w x cs (⟨_,rfl⟩ | ⟨_,rfl⟩ | ⟨_,_,A,c,rfl,_⟩) u hu<;>(rw[List.mem_singleton.1 hu];rfl)
 K_below:=by
  rintro w w1 x cs hb (⟨h,rfl⟩ | ⟨h,rfl⟩ | ⟨h1,h2,A,c,rfl,hl,hr⟩)
  ·exact .inl ⟨h,rfl⟩
  ·exact .inr (.inl ⟨h,rfl⟩)
  ·exact .inr (.inr ⟨h1,h2,A,c,rfl,hl,Kd.C_below hr hb⟩)
 K_of_M:=by
  rintro w base ok x cs (⟨h,rfl⟩ | ⟨h,rfl⟩ | ⟨h1,h2,v,rfl,hr⟩)
  ·exact .inl ⟨h,rfl⟩
  ·exact .inr (.inl ⟨h,rfl⟩)
  ·obtain⟨A,c,rfl,hl,hr⟩:=Kd.R_reads hr
   exact .inr (.inr ⟨h1,h2,A,c,rfl,hl,hr⟩)
 M_mono:=by
  rintro w base ok ok' x cs hok (⟨h,rfl⟩ | ⟨h,rfl⟩ | ⟨h1,h2,v,rfl,hr⟩)
  ·exact .inl ⟨h,rfl⟩
  ·exact .inr (.inl ⟨h,rfl⟩)
  ·exact .inr (.inr ⟨h1,h2,v,rfl,Kd.R_mono hr hok⟩)
 M_bound:=by
  rintro w base ok x cs (⟨h,rfl⟩ | ⟨h,rfl⟩ | ⟨h1,h2,v,rfl,hr⟩)
  ·exact .inl ⟨h,rfl⟩
  ·exact .inr (.inl ⟨h,rfl⟩)
  ·exact .inr (.inr ⟨h1,h2,v,rfl,Kd.R_bound hr⟩)
 M_move:=by
  rintro w w1 base ok x cs hm (⟨h,rfl⟩ | ⟨h,rfl⟩ | ⟨h1,h2,v,rfl,hr⟩)
  ·exact .inl ⟨h,rfl⟩
  ·exact .inr (.inl ⟨h,rfl⟩)
  ·exact .inr (.inr ⟨h1,h2,v,rfl,Kd.R_move hr hm⟩)
 M_lower:=by
  rintro w base base' ok x cs hb (⟨h,rfl⟩ | ⟨h,rfl⟩ | ⟨h1,h2,v,rfl,hr⟩)
  ·exact .inl ⟨h,rfl⟩
  ·exact .inr (.inl ⟨h,rfl⟩)
  ·exact .inr (.inr ⟨h1,h2,v,rfl,Kd.R_lower hr hb⟩)
theorem anyK_mono:Kd.Mono anyK:=by
 refine⟨fun _ _ _=>rfl,?_,?_⟩
 ·rintro d d' hs h w x cs (⟨h1,rfl⟩ | ⟨h1,rfl⟩ | ⟨h1,h2,A,c,rfl,hl,hr⟩)
  ·exact .inl ⟨h1,rfl⟩
  ·exact .inr (.inl ⟨h1,rfl⟩)
  ·exact .inr (.inr ⟨h1,h2,A,c,rfl,hl,Kd.C_imp hs h hr⟩)
 ·rintro d d' hs h w base ok x cs (⟨h1,rfl⟩ | ⟨h1,rfl⟩ | ⟨h1,h2,v,rfl,hr⟩)
  ·exact .inl ⟨h1,rfl⟩
  ·exact .inr (.inl ⟨h1,rfl⟩)
  ·exact .inr (.inr ⟨h1,h2,v,rfl,Kd.R_imp hs h hr⟩)
theorem anyK_sub:Kd.Sub anyK [161]:=fun d h q hq=>by
 rcases List.mem_cons.1 hq with rfl | hq
 ·exact List.mem_singleton.2 rfl
 ·exact h q hq
theorem anyK_sz:∀ n,(Kd.upto anyK 1 [161] n).sz=1:=Kd.upto_sz (fun _=>rfl)
def kA:Kd S32:=Kd.fix anyK 1 [161] anyK_sz (Kd.upto_E anyK_sub)
theorem kA_open{w:World}{x:S32}{cs:List Value}(h:kA.K w x cs):(x.f0=1∧cs = [.iface 3 (.int .i64 x.f1)])∨(x.f0=2∧cs = [.iface 9 (.string x.f2)])∨(x.f0≠1∧x.f0≠2∧∃ A c,cs = [.iface 217 (.slice A x.f3.length c)]∧x.f3.length≤c∧kA.C w A x.f3.length x.f3):=by
 obtain⟨n,h⟩:=h
 cases n with
 | zero=>exact h.elim
 | succ n=>
  rcases h with h | h | ⟨h1,h2,A,c,e,hl,hr⟩
  ·exact .inl h
  ·exact .inr (.inl h)
  ·exact .inr (.inr ⟨h1,h2,A,c,e,hl,Kd.fix_C hr⟩)
theorem kA_mkM{w:World}{base:Nat}{ok:Nat→Prop}{x:S32}{v:Value}(h1:x.f0≠1)(h2:x.f0≠2)(h:kA.R 161 w base ok v x.f3):kA.M w base ok x [.iface 217 v]:=by
 obtain⟨n,q⟩:=Kd.fix_R_back anyK_mono h
 exact⟨n+1,.inr (.inr ⟨h1,h2,v,rfl,q⟩)⟩
theorem kA_int{w:World}{base:Nat}{ok:Nat→Prop}{x:S32}(h:x.f0=1):kA.M w base ok x [.iface 3 (.int .i64 x.f1)]:=⟨1,.inl ⟨h,rfl⟩⟩
theorem kA_str{w:World}{base:Nat}{ok:Nat→Prop}{x:S32}(h:x.f0=2):kA.M w base ok x [.iface 9 (.string x.f2)]:=⟨1,.inr (.inl ⟨h,rfl⟩)⟩
def anyF(base:Nat)(x:S32)(u:Value)(W:World):Prop:=kA.M W base (fun _=>True) x [u]
abbrev rA(W:World)(base:Nat)(v:Value)(l:List S32):Prop:=Kd.R kA 161 W base (fun _=>True) v l
theorem infoAny:(Tryz.prog.info? 161).map (fun i=>(i.zero,i.size,i.bytes))=some (some .nilIface,1,16):=by kernel_rfl
theorem anyF_one{base:Nat}{x:S32}{u:Value}{W:World}(h:anyF base x u W):u.oneCell'=true:=kA.K_one (kA.K_of_M h) u (List.mem_singleton.2 rfl)
theorem anyF_iface{base:Nat}{x:S32}{u:Value}{W:World}(h:anyF base x u W):∃ t p,u = .iface t p:=by
 rcases kA_open (kA.K_of_M h)with ⟨_,e⟩ | ⟨_,e⟩ | ⟨_,_,A,c,e,_⟩
 ·exact⟨_,_,(List.cons.inj e).1⟩
 ·exact⟨_,_,(List.cons.inj e).1⟩
 ·exact⟨_,_,(List.cons.inj e).1⟩
theorem append_any{W:World}{b0 lo:Nat}{v u:Value}{acc:List S32}{x:S32}{g:Nat}(hR:rA W b0 v acc)(hv:∀ k,v.ownBlock=some k→k < lo)(hb0:b0≤lo)(hgl:lo≤g)
  (hg:W.heap[g]? = some (.cells #[u] 161 (0,0))) (hu:anyF lo x u W) (hn:acc.length≤2513169434916) (ty:TypeId) :
  ∃ v' W',(Builtin.append_ #[217,217] ty #[v,.slice (some ⟨g,0,none⟩) 1 1]).run Tryz.prog W = .ok v' W'∧W.grownBy W' v.ownBlock∧rA W' b0 v' (acc ++ [x]):=by
 obtain⟨i0,hi0,hz0,hz1,hz2⟩:=info_parts infoAny
 have h1:=anyF_one hu
 have hgs:=(Array.getElem?_eq_some_iff.1 hg).1
 obtain⟨h0,inner,hown,hreps⟩:=hR
 have hbn:(acc.length+1) * 16≤2513169434917 * 16:=Nat.mul_le_mul (by omega) (Nat.le_refl _)
 obtain⟨h,cap,W',hr,hown',hgr,hat,_⟩:=run_append_lies (P:=Tryz.prog) W 217 ty b0 161 i0 _ 1 16 Tryz.underlying217 hi0 hz0 hz1 hz2 (by rfl) (by decide) v acc.length _ hown ⟨g,0,none⟩ 1 1 [u]
  (by rfl) (World.news_of_block (cs:=#[u]) hg) (by
   intro u' hu'
   rw[List.mem_singleton.1 hu'];exact h1) (by decide) (by unfold maxLen;omega) (by omega) (by omega) W.heap.size rfl
 have hm3:Kd.M kA W b0 (fun k=>lo≤k) x [u]:=kA.M_lower hb0 (kA.M_mono (fun k hk=>hk.2.1) (kA.M_bound hu))
 have hres:=Kd.R_appended (d:=kA) (e:=161) (base:=b0) (ok:=fun _=>True) (W:=W) (w1:=W') (v:=v) (v1:=.slice (some ⟨h,0,none⟩) (acc.length+1) cap) h0 hreps hm3 (fun k hk=>⟨trivial,fun e=>by have:=hv k e.symm;omega⟩) (fun k hk=>trivial) hown' hgr
  (hat.elim (fun e=> .inl (by rw[e];rfl)) (fun e=> .inr ⟨h,rfl,by omega⟩))
 exact⟨_,W',hr,hgr,hres⟩
theorem grown_belowA{W W':World}{b0:Nat}{v:Value}{w:World}{acc:List S32}(hR:rA W b0 v acc)(h:W.grownBy W' v.ownBlock)(hb:Below b0 w W)(hs:b0≤W.heap.size):Below b0 w W':=by
 have:Below b0 W W':=⟨h.os,h.tape,h.output,h.size,fun k hk=>by
  by_cases e:some k=v.ownBlock
  ·obtain⟨_,inner,hown,_⟩:=hR
   have:=own_base hown k e.symm;omega
  ·exact h.block k (by omega) e⟩
 exact hb.trans this
theorem rA_own{b:Nat}{v:Value}{l:List S32}{W:World}(h:rA W b v l):∀ k,v.ownBlock=some k→k < W.heap.size:=fun k hk=>by
 obtain⟨_,inner,ho,_⟩:=h
 exact own_lt ho k hk
def PlainPost(x:S32)(w:World)(e:Ending)(w':World):Prop:=∃ u,e = .returned u∧anyF w.heap.size x u w'∧Below w.heap.size w w'
theorem rA_new(W:World)(b0:Nat)(h:b0≤W.heap.size):rA (W.alloc (.cells #[] 161)) b0 (.slice (some ⟨W.heap.size,0,none⟩) 0 0) []:=
 ⟨fun _ _=>trivial,[],⟨by rfl,.inr ⟨W.heap.size,0,#[],rfl,h,alloc_lastV _ _,Nat.le_refl _,by decide,rfl,rfl⟩⟩,Reps.none _ _⟩
mutual
def lenW:S32→Prop
 | ⟨_,_,_,l⟩=>l.length≤2513169434916∧lenWL l
def lenWL:List S32→Prop
 | []=>True
 | x :: xs=>lenW x∧lenWL xs
end
theorem lenWL_mem{l:List S32}(h:lenWL l){x:S32}(hx:x∈l):lenW x:=by
 induction l with
 | nil=>cases hx
 | cons y ys ih=>
  rw[lenWL]at h
  rcases List.mem_cons.1 hx with rfl | hx
  ·exact h.1
  ·exact ih h.2 hx
theorem lenWL_of{l:List S32}(h:∀ x∈l,lenW x):lenWL l:=by
 induction l with
 | nil=>rw[lenWL];trivial
 | cons y ys ih=>rw[lenWL];exact⟨h y List.mem_cons_self,ih fun x hx=>h x (List.mem_cons_of_mem _ hx)⟩
theorem lenW_of_parts(x:S32):parts x≤1000000→lenW x:=by
 refine S32.ind (P:=fun x=>parts x≤1000000→lenW x) (fun x ih=>?_) x
 intro hp
 obtain⟨k,n,s,l⟩:=x
 rw[parts]at hp
 have:=partsL_len l
 rw[lenW]
 exact⟨by omega,lenWL_of fun y hy=>ih y hy (by have:=partsL_mem hy;omega)⟩
set_option maxHeartbeats 8000000 in
set_option maxRecDepth 100000 in
theorem plainW_calls:∀ (m:Nat) (x:S32),SizeOf.sizeOf x < m→∀ (A:Option Addr) (c:Nat) (w:World),Kd.C k32 w A x.f3.length x.f3→x.f3.length≤c→lenW x→
  Calls Tryz.prog 86 #[.agg #[.int .i64 x.f0,.int .i64 x.f1,.string x.f2,.slice A x.f3.length c]] w (PlainPost x w)
 | 0,x,h,A,c,w,hA,hc,hp=>by omega
 | m+1,x,h,A,c,w,hA,hc,hp=>by
  have hIH:=fun y h' A c w=>plainW_calls m y h' A c w
  have HIH:=Lib.hid hIH
  clear hIH
  obtain⟨k,n,s,l⟩:=x
  simp only at hA hc ⊢
  rw[lenW]at hp
  obtain⟨W1,hW1⟩:∃ W1,W1=w.alloc (.cells #[.int .i64 k,.int .i64 n,.string s,.slice A l.length c] 32):=⟨_,rfl⟩
  have hn1:Below w.heap.size w W1:=by rw[hW1];exact(Below.refl _ _).alloc (Nat.le_refl _) _
  have hg1:W1.heap[w.heap.size]? = some (.cells #[.int .i64 k,.int .i64 n,.string s,.slice A l.length c] 32 (0,0)):=by rw[hW1];exact alloc_lastV _ _
  obtain⟨⟨b0,b1,b2,b3⟩,_⟩:=box4 hg1
  have HN1:=Lib.hid hn1
  have HA:=Lib.hid (Kd.C_below hA hn1)
  have hlp:=hp.1
  rw[hW1]at b0 b1 b2 b3
  have HW1:=Lib.hid hW1
  have HS1:=Lib.hid (show W1.heap.size=w.heap.size+1 by rw[hW1];simp)
  clear hW1 hn1 hg1 hA
  by_cases hk1:k=1
  ·subst hk1
   go_enter Tryz.func86,Tryz.ntmps86
   go_wp2_with fail
   rw[← HW1.out]
   go_ret
   exact⟨_,rfl,kA_int rfl,HN1.out⟩
  ·have hk1':(k == 1)=false:=by simpa using hk1
   by_cases hk2:k=2
   ·subst hk2
    go_enter Tryz.func86,Tryz.ntmps86
    go_wp2_with fail
    rw[← HW1.out]
    go_ret
    exact⟨_,rfl,kA_str rfl,HN1.out⟩
   ·have hk2':(k == 2)=false:=by simpa using hk2
    have HK:=Lib.hid (And.intro hk1 hk2)
    clear hk1 hk2
    go_enter Tryz.func86,Tryz.ntmps86
    go_wp2_with fail
    rw[← HW1.out]
    clear b0 b1 b2 b3
    obtain⟨W2,hW2⟩:∃ W2,W2=W1.alloc (.cells #[] 161):=⟨_,rfl⟩
    have hn2:Below W1.heap.size W1 W2:=by rw[hW2];exact(Below.refl _ _).alloc (Nat.le_refl _) _
    have hr2:rA W2 W1.heap.size (.slice (some ⟨W1.heap.size,0,none⟩) 0 0) []:=by rw[hW2];exact rA_new W1 _ (Nat.le_refl _)
    rw[HS1.out]at hr2
    have HR2:=Lib.hid hr2
    have HN2:=Lib.hid hn2
    rw[← hW2]
    clear hr2 hn2 hW2
    go_loopw [3,22] (fun v i wr=>∃ j:Nat,i = .int .i64 (j:Int)∧j≤l.length∧rA wr W1.heap.size v (l.take j)∧Below W1.heap.size W1 wr) (fun _ i _=>l.length - (intOf i).toNat)
    case atStart=>exact⟨0,rfl,Nat.zero_le _,by rw[HS1.out];exact HR2.out,HN2.out⟩
    case round=>
     obtain⟨i,rfl,hi,hrow,hbe⟩:=hrel
     have HROW:=Lib.hid hrow
     have HBE:=Lib.hid hbe
     by_cases hil:i < l.length
     ·obtain⟨ad,A3,c3,rfl,c0,c1,c2,c3',l3,g3⟩:=at_T32 (Kd.C_below HA.out hbe) (i:Int) (by omega) (by omega)
      obtain⟨x,hx⟩:∃ x,l[i]? = some x:=⟨_,List.getElem?_eq_getElem hil⟩
      have hrd:rd_T32 l (i:Int)=x:=by unfold rd_T32;rw[Int.toNat_natCast,List.getD_eq_getElem?_getD,hx];rfl
      rw[hrd]at c0 c1 c2 c3' l3 g3
      rw[Int.toNat_natCast]at c0 c1 c2 c3'
      have hpx:lenW x:=lenWL_mem hp.2 (List.mem_of_getElem? hx)
      have hsz:SizeOf.sizeOf x < m:=by
       have:=List.sizeOf_lt_of_mem (List.mem_of_getElem? hx)
       simp at h;omega
      obtain⟨W3,hW3⟩:∃ W3,W3=wr.alloc (.cells #[.int .i64 x.f0,.int .i64 x.f1,.string x.f2,.slice A3 x.f3.length c3] 32):=⟨_,rfl⟩
      have hn3:Below wr.heap.size wr W3:=by rw[hW3];exact(Below.refl _ _).alloc (Nat.le_refl _) _
      have hg3:W3.heap[wr.heap.size]? = some (.cells #[.int .i64 x.f0,.int .i64 x.f1,.string x.f2,.slice A3 x.f3.length c3] 32 (0,0)):=by rw[hW3];exact alloc_lastV _ _
      have HCALL:=Lib.hid (HIH.out x hsz A3 c3 W3 (Kd.C_below g3 hn3) l3 hpx)
      have HN3:=Lib.hid hn3
      have HX:=Lib.hid hx
      have HLEN:=Lib.hid (show(l.take i).length≤2513169434916 by rw[List.length_take];omega)
      obtain⟨⟨d0,d1,d2,d3⟩,_⟩:=box4 hg3
      rw[hW3]at d0 d1 d2 d3
      have HW3:=Lib.hid hW3
      clear hrow hbe hrd g3 hx hpx hsz hn3 hg3 hW3
      go_wp2_with fail
      rw[← HW3.out]
      clear d0 d1 d2 d3 c0 c1 c2 c3'
      refine HCALL.out.mono ?_
      rintro e W4 ⟨u,rfl,hu,hb4⟩
      obtain⟨tu,pu,rfl⟩:=anyF_iface hu
      have hb34:Below wr.heap.size wr W4:=HN3.out.trans (hb4.mono HN3.out.size)
      obtain⟨W5,hW5⟩:∃ W5,W5=W4.alloc (.cells #[.iface tu pu] 161):=⟨_,rfl⟩
      have hn5:Below W4.heap.size W4 W5:=by rw[hW5];exact(Below.refl _ _).alloc (Nat.le_refl _) _
      have hg5:W5.heap[W4.heap.size]? = some (.cells #[.iface tu pu] 161 (0,0)):=by rw[hW5];exact alloc_lastV _ _
      have hu5:anyF wr.heap.size x (.iface tu pu) W5:=kA.M_lower HN3.out.size (Kd.M_below hu hn5)
      have hbw:Below wr.heap.size wr W5:=hb34.trans (hn5.mono hb34.size)
      have hrW:=Kd.R_below HROW.out hbw
      obtain⟨v8,W8,hr8,hg8,hR8⟩:=append_any (b0:=W1.heap.size) (lo:=wr.heap.size) hrW (rA_own HROW.out) HBE.out.size (Nat.le_trans HN3.out.size hb4.size) hg5 hu5 HLEN.out 217
      have hB8:=grown_belowA hrW hg8 (HBE.out.trans (hbw.mono HBE.out.size)) (Nat.le_trans HBE.out.size hbw.size)
      have hR8':rA W8 W1.heap.size v8 (l.take (i+1)):=by
       rw[List.take_add_one,HX.out];exact hR8
      have ho1:=anyF_one hu5
      have HR8:=Lib.hid hR8'
      have HB8:=Lib.hid hB8
      rw[hW5]at hr8
      have HAPP:=Lib.hid hr8
      clear hg8 hR8 hR8' hB8 hrW hbw hu5 hg5 hn5 hW5 hb34 hb4 hu hr8
      go_wp2_with (refine wpList_value rfl (exec_append _ _ 217 rfl HAPP.out) ?_)
      go_roundw
      case rel=>exact⟨i+1,by go_num,hil,HR8.out,HB8.out⟩
      case measure=>simp[intOf];omega
     ·have hie:i=l.length:=by omega
      rw[hie,List.take_length]at hrow
      have HROW2:=Lib.hid hrow
      clear hrow hie hbe
      go_wp2_with fail
      go_ret
      exact⟨_,rfl,kA_mkM HK.out.1 HK.out.2 (Kd.R_lower HROW2.out HN1.out.size),HN1.out.trans (HBE.out.mono HN1.out.size)⟩
theorem plain_calls(m:Nat)(x:S32)(h:SizeOf.sizeOf x < m)(A:Option Addr)(c:Nat)(w:World)(hA:Kd.C k32 w A x.f3.length x.f3)(hc:x.f3.length≤c)(hp:parts x≤1000000) :
  Calls Tryz.prog 86 #[.agg #[.int .i64 x.f0,.int .i64 x.f1,.string x.f2,.slice A x.f3.length c]] w (PlainPost x w):=plainW_calls m x h A c w hA hc (lenW_of_parts x hp)
end Go.Proofs.YtlmabbigfdbmbaaGreatDoor.PShelfNil
namespace Go.Proofs.YtlmabbigfdbmbaaGreatDoor.PShelfNil
open Go.RowKit Go.Proofs.YtlmabbigfdbmbaaGreatDoor.Ord Go.Proofs.YtlmabbigfdbmbaaGreatDoor.Obj Go.Proofs.YtlmabbigfdbmbaaGreatDoorW.PrintWords Go.Proofs.YtlmabbigfdbmbaaGreatDoorW.PrintLast Go.Proofs.YtlmabbigfdbmbaaGreatDoorW.PrintMore
attribute [local irreducible] OpGives
abbrev AnyAt(w:World)(x:S32)(u:Value):Prop:=kA.K w x [u]
theorem AnyAt.below{w w':World}{x:S32}{u:Value}(h:AnyAt w x u)(hb:Below w.heap.size w w'):AnyAt w' x u:=kA.K_below hb h
theorem any_cases{w:World}{x:S32}{u:Value}(h:AnyAt w x u) :
  (x.f0=1∧u = .iface 3 (.int .i64 x.f1))∨(x.f0=2∧u = .iface 9 (.string x.f2))∨(x.f0≠1∧x.f0≠2∧∃ A c,u = .iface 217 (.slice A x.f3.length c)∧x.f3.length≤c∧kA.C w A x.f3.length x.f3):=by
 rcases kA_open h with ⟨h1,e⟩ | ⟨h1,e⟩ | ⟨h1,h2,A,c,e,hl,hC⟩
 ·exact .inl ⟨h1,(List.cons.inj e).1⟩
 ·exact .inr (.inl ⟨h1,(List.cons.inj e).1⟩)
 ·exact .inr (.inr ⟨h1,h2,A,c,(List.cons.inj e).1,hl,hC⟩)
theorem any_at{w:World}{A:Option Addr}{l:List S32}{i:Nat}{x:S32}(h:kA.C w A l.length l)(hx:l[i]? = some x) :
  ∃ ad u,A=some ad∧w.cell? (ad.add i)=some u∧AnyAt w x u∧(ad.add i).block < w.heap.size:=by
 have hi:i < l.length:=(List.getElem?_eq_some_iff.1 hx).1
 obtain⟨ad,c,e,hcl,hK,hc0⟩:=Kd.C_get h z32 (i:Int) (by omega) (by omega)
 have hrd:l.getD (i:Int).toNat z32=x:=by rw[Int.toNat_natCast,List.getD_eq_getElem?_getD,hx];rfl
 rw[hrd]at hK
 have h1:c.length=1:=hcl
 obtain⟨u,rfl⟩:∃ u,c = [u]:=by
  match c,h1 with
  | [u],_=>exact⟨u,rfl⟩
 have h0:=hc0 0 u rfl
 rw[Int.toNat_natCast,show kA.sz=1 from rfl,Nat.mul_one,Nat.add_zero]at h0
 exact⟨ad,u,e,h0,hK,block_lt_of_cell h0⟩
def isL(x:S32):Bool:=!(decide (x.f0=1)) && !(decide (x.f0=2))
def rowD(x:S32):Option S174:=
 if isL x then match x.f3 with
  | [a,b,c]=>if a.f0=1∧b.f0=1 then (if c.f0=1 then some ⟨a.f1,b.f1,⟨1,c.f1,⟨#[]⟩⟩⟩else if c.f0=2 then some ⟨a.f1,b.f1,⟨2,0,c.f2⟩⟩else none)else none
  | _=>none
 else none
def rowVal(r:S174):Value:=.agg #[.int .i64 r.f0,.int .i64 r.f1,.int .i64 r.f2.f0,.int .i64 r.f2.f1,.string r.f2.f2]
def rowPost(o:Option S174)(w:World)(e:Ending)(w':World):Prop:=e = .returned (.tuple #[rowVal (o.getD z174),.bool o.isSome])∧Below w.heap.size w w'
theorem ta_ii(v:Value)(W:World):(Instr.typeAssert (.iface 3 v) 161 3 true).run Tryz.prog W = .ok (.tuple #[v,.bool true]) W:=by kernel_rfl
theorem ta_is(v:Value)(W:World):(Instr.typeAssert (.iface 3 v) 161 9 true).run Tryz.prog W = .ok (.tuple #[.string (⟨#[]⟩:ByteArray),.bool false]) W:=by kernel_rfl
theorem ta_il(v:Value)(W:World):(Instr.typeAssert (.iface 3 v) 161 217 true).run Tryz.prog W = .ok (.tuple #[.slice none 0 0,.bool false]) W:=by kernel_rfl
theorem ta_si(v:Value)(W:World):(Instr.typeAssert (.iface 9 v) 161 3 true).run Tryz.prog W = .ok (.tuple #[.int .i64 0,.bool false]) W:=by kernel_rfl
theorem ta_ss(v:Value)(W:World):(Instr.typeAssert (.iface 9 v) 161 9 true).run Tryz.prog W = .ok (.tuple #[v,.bool true]) W:=by kernel_rfl
theorem ta_sl(v:Value)(W:World):(Instr.typeAssert (.iface 9 v) 161 217 true).run Tryz.prog W = .ok (.tuple #[.slice none 0 0,.bool false]) W:=by kernel_rfl
theorem ta_li(v:Value)(W:World):(Instr.typeAssert (.iface 217 v) 161 3 true).run Tryz.prog W = .ok (.tuple #[.int .i64 0,.bool false]) W:=by kernel_rfl
theorem ta_ls(v:Value)(W:World):(Instr.typeAssert (.iface 217 v) 161 9 true).run Tryz.prog W = .ok (.tuple #[.string (⟨#[]⟩:ByteArray),.bool false]) W:=by kernel_rfl
theorem ta_ll(v:Value)(W:World):(Instr.typeAssert (.iface 217 v) 161 217 true).run Tryz.prog W = .ok (.tuple #[v,.bool true]) W:=by kernel_rfl
attribute [local go_sem] ta_ii ta_is ta_il ta_si ta_ss ta_sl ta_li ta_ls ta_ll
theorem alloc_two(w:World)(a b:Obj):((w.alloc a).alloc b).heap[w.heap.size]? = some a:=(Lib.alloc_old _ _ _ (by simp)).trans (alloc_lastV _ _)
theorem results_row(tmps:Array Value)(w:World)(c:Nat)(a0 a1 a2 a3 a4 b:Value)(h2:tmps.getD 2 undef = .pointer (some ⟨c,0,none⟩))(h3:tmps.getD 3 undef=b)
  (hc:w.heap[c]? = some (.cells #[a0,a1,a2,a3,a4] 174 (0,0))) :
  (results Tryz.f185 tmps).run Tryz.prog w = .ok (.tuple #[.agg #[a0,a1,a2,a3,a4],b]) w:=by
 have h2':tmps[2]?.getD undef = .pointer (some ⟨c,0,none⟩):=by simpa using h2
 have h3':tmps[3]?.getD undef=b:=by simpa using h3
 obtain⟨k0,k1,k2,k3,k4⟩:=box5 hc
 simp[results,Tryz.results185,h2',h3',asAddr,k0,k1,k2,k3,k4,go_sem]
set_option maxRecDepth 100000 in
theorem row_atom(u:Value)(w:World)(hu:(∃ v,u = .iface 3 v)∨∃ v,u = .iface 9 v):Calls Tryz.prog 185 #[u] w (rowPost none w):=by
 rcases hu with ⟨v,rfl⟩ | ⟨v,rfl⟩
 ·go_enter Tryz.func185,Tryz.ntmps185
  go_wp2
  refine bodyPost_ret (results_row _ _ w.heap.size _ _ _ _ _ _ rfl rfl (alloc_lastV _ _)) rfl ?_
  exact⟨rfl,(Below.refl _ _).alloc (Nat.le_refl _) _⟩
 ·go_enter Tryz.func185,Tryz.ntmps185
  go_wp2
  refine bodyPost_ret (results_row _ _ w.heap.size _ _ _ _ _ _ rfl rfl (alloc_lastV _ _)) rfl ?_
  exact⟨rfl,(Below.refl _ _).alloc (Nat.le_refl _) _⟩
set_option maxRecDepth 100000 in
theorem row_len(A:Option Addr)(n c:Nat)(w:World)(hn:n≠3):Calls Tryz.prog 185 #[.iface 217 (.slice A n c)] w (rowPost none w):=by
 have hn':((n:Int) == 3)=false:=by rw[beq_eq_false_iff_ne];omega
 go_enter Tryz.func185,Tryz.ntmps185
 go_wp2
 refine bodyPost_ret (results_row _ _ w.heap.size _ _ _ _ _ _ rfl rfl (alloc_lastV _ _)) rfl ?_
 exact⟨rfl,(Below.refl _ _).alloc (Nat.le_refl _) _⟩
set_option maxHeartbeats 4000000 in
set_option maxRecDepth 100000 in
theorem row_is(ad:Addr)(c:Nat)(n0:Int)(s1:ByteArray)(u2:Value)(w:World)(h0:w.cell? ad=some (.iface 3 (.int .i64 n0)))(h1:w.cell? ⟨ad.block,ad.off+1,none⟩=some (.iface 9 (.string s1)))(h2:w.cell? ⟨ad.block,ad.off+2,none⟩=some (u2))(hb:ad.block < w.heap.size) :
  Calls Tryz.prog 185 #[.iface 217 (.slice (some ad) 3 c)] w (rowPost none w):=by
 go_enter Tryz.func185,Tryz.ntmps185
 go_wp2
 refine bodyPost_ret (results_row _ _ w.heap.size _ _ _ _ _ _ rfl rfl (alloc_lastV _ _)) rfl ?_
 exact⟨rfl,(Below.refl _ _).alloc (Nat.le_refl _) _⟩
set_option maxHeartbeats 4000000 in
set_option maxRecDepth 100000 in
theorem row_il(ad:Addr)(c:Nat)(n0:Int)(A1:Option Addr)(m1 c1:Nat)(u2:Value)(w:World)(h0:w.cell? ad=some (.iface 3 (.int .i64 n0)))(h1:w.cell? ⟨ad.block,ad.off+1,none⟩=some (.iface 217 (.slice A1 m1 c1)))(h2:w.cell? ⟨ad.block,ad.off+2,none⟩=some (u2))(hb:ad.block < w.heap.size) :
  Calls Tryz.prog 185 #[.iface 217 (.slice (some ad) 3 c)] w (rowPost none w):=by
 go_enter Tryz.func185,Tryz.ntmps185
 go_wp2
 refine bodyPost_ret (results_row _ _ w.heap.size _ _ _ _ _ _ rfl rfl (alloc_lastV _ _)) rfl ?_
 exact⟨rfl,(Below.refl _ _).alloc (Nat.le_refl _) _⟩
set_option maxHeartbeats 4000000 in
set_option maxRecDepth 100000 in
theorem row_si(ad:Addr)(c:Nat)(s0:ByteArray)(n1:Int)(u2:Value)(w:World)(h0:w.cell? ad=some (.iface 9 (.string s0)))(h1:w.cell? ⟨ad.block,ad.off+1,none⟩=some (.iface 3 (.int .i64 n1)))(h2:w.cell? ⟨ad.block,ad.off+2,none⟩=some (u2))(hb:ad.block < w.heap.size) :
  Calls Tryz.prog 185 #[.iface 217 (.slice (some ad) 3 c)] w (rowPost none w):=by
 go_enter Tryz.func185,Tryz.ntmps185
 go_wp2
 refine bodyPost_ret (results_row _ _ w.heap.size _ _ _ _ _ _ rfl rfl (alloc_lastV _ _)) rfl ?_
 exact⟨rfl,(Below.refl _ _).alloc (Nat.le_refl _) _⟩
set_option maxHeartbeats 4000000 in
set_option maxRecDepth 100000 in
theorem row_ss(ad:Addr)(c:Nat)(s0:ByteArray)(s1:ByteArray)(u2:Value)(w:World)(h0:w.cell? ad=some (.iface 9 (.string s0)))(h1:w.cell? ⟨ad.block,ad.off+1,none⟩=some (.iface 9 (.string s1)))(h2:w.cell? ⟨ad.block,ad.off+2,none⟩=some (u2))(hb:ad.block < w.heap.size) :
  Calls Tryz.prog 185 #[.iface 217 (.slice (some ad) 3 c)] w (rowPost none w):=by
 go_enter Tryz.func185,Tryz.ntmps185
 go_wp2
 refine bodyPost_ret (results_row _ _ w.heap.size _ _ _ _ _ _ rfl rfl (alloc_lastV _ _)) rfl ?_
 exact⟨rfl,(Below.refl _ _).alloc (Nat.le_refl _) _⟩
set_option maxHeartbeats 4000000 in
set_option maxRecDepth 100000 in
theorem row_sl(ad:Addr)(c:Nat)(s0:ByteArray)(A1:Option Addr)(m1 c1:Nat)(u2:Value)(w:World)(h0:w.cell? ad=some (.iface 9 (.string s0)))(h1:w.cell? ⟨ad.block,ad.off+1,none⟩=some (.iface 217 (.slice A1 m1 c1)))(h2:w.cell? ⟨ad.block,ad.off+2,none⟩=some (u2))(hb:ad.block < w.heap.size) :
  Calls Tryz.prog 185 #[.iface 217 (.slice (some ad) 3 c)] w (rowPost none w):=by
 go_enter Tryz.func185,Tryz.ntmps185
 go_wp2
 refine bodyPost_ret (results_row _ _ w.heap.size _ _ _ _ _ _ rfl rfl (alloc_lastV _ _)) rfl ?_
 exact⟨rfl,(Below.refl _ _).alloc (Nat.le_refl _) _⟩
set_option maxHeartbeats 4000000 in
set_option maxRecDepth 100000 in
theorem row_li(ad:Addr)(c:Nat)(A0:Option Addr)(m0 c0:Nat)(n1:Int)(u2:Value)(w:World)(h0:w.cell? ad=some (.iface 217 (.slice A0 m0 c0)))(h1:w.cell? ⟨ad.block,ad.off+1,none⟩=some (.iface 3 (.int .i64 n1)))(h2:w.cell? ⟨ad.block,ad.off+2,none⟩=some (u2))(hb:ad.block < w.heap.size) :
  Calls Tryz.prog 185 #[.iface 217 (.slice (some ad) 3 c)] w (rowPost none w):=by
 go_enter Tryz.func185,Tryz.ntmps185
 go_wp2
 refine bodyPost_ret (results_row _ _ w.heap.size _ _ _ _ _ _ rfl rfl (alloc_lastV _ _)) rfl ?_
 exact⟨rfl,(Below.refl _ _).alloc (Nat.le_refl _) _⟩
set_option maxHeartbeats 4000000 in
set_option maxRecDepth 100000 in
theorem row_ls(ad:Addr)(c:Nat)(A0:Option Addr)(m0 c0:Nat)(s1:ByteArray)(u2:Value)(w:World)(h0:w.cell? ad=some (.iface 217 (.slice A0 m0 c0)))(h1:w.cell? ⟨ad.block,ad.off+1,none⟩=some (.iface 9 (.string s1)))(h2:w.cell? ⟨ad.block,ad.off+2,none⟩=some (u2))(hb:ad.block < w.heap.size) :
  Calls Tryz.prog 185 #[.iface 217 (.slice (some ad) 3 c)] w (rowPost none w):=by
 go_enter Tryz.func185,Tryz.ntmps185
 go_wp2
 refine bodyPost_ret (results_row _ _ w.heap.size _ _ _ _ _ _ rfl rfl (alloc_lastV _ _)) rfl ?_
 exact⟨rfl,(Below.refl _ _).alloc (Nat.le_refl _) _⟩
set_option maxHeartbeats 4000000 in
set_option maxRecDepth 100000 in
theorem row_ll(ad:Addr)(c:Nat)(A0:Option Addr)(m0 c0:Nat)(A1:Option Addr)(m1 c1:Nat)(u2:Value)(w:World)(h0:w.cell? ad=some (.iface 217 (.slice A0 m0 c0)))(h1:w.cell? ⟨ad.block,ad.off+1,none⟩=some (.iface 217 (.slice A1 m1 c1)))(h2:w.cell? ⟨ad.block,ad.off+2,none⟩=some (u2))(hb:ad.block < w.heap.size) :
  Calls Tryz.prog 185 #[.iface 217 (.slice (some ad) 3 c)] w (rowPost none w):=by
 go_enter Tryz.func185,Tryz.ntmps185
 go_wp2
 refine bodyPost_ret (results_row _ _ w.heap.size _ _ _ _ _ _ rfl rfl (alloc_lastV _ _)) rfl ?_
 exact⟨rfl,(Below.refl _ _).alloc (Nat.le_refl _) _⟩
set_option maxHeartbeats 4000000 in
set_option maxRecDepth 100000 in
theorem row_iii(ad:Addr)(c:Nat)(n0:Int)(n1:Int)(n2:Int)(w:World)(h0:w.cell? ad=some (.iface 3 (.int .i64 n0)))(h1:w.cell? ⟨ad.block,ad.off+1,none⟩=some (.iface 3 (.int .i64 n1)))(h2:w.cell? ⟨ad.block,ad.off+2,none⟩=some (.iface 3 (.int .i64 n2)))(hb:ad.block < w.heap.size) :
  Calls Tryz.prog 185 #[.iface 217 (.slice (some ad) 3 c)] w (rowPost (some ⟨n0,n1,⟨1,n2,⟨#[]⟩⟩⟩) w):=by
 go_enter Tryz.func185,Tryz.ntmps185
 go_wp2
 refine bodyPost_ret (results_row _ _ w.heap.size _ _ _ _ _ _ rfl rfl (alloc_two _ _ _)) rfl ?_
 exact⟨rfl,((Below.refl _ _).alloc (Nat.le_refl _) _).alloc (by simp) _⟩
set_option maxHeartbeats 4000000 in
set_option maxRecDepth 100000 in
theorem row_iis(ad:Addr)(c:Nat)(n0 n1:Int)(s2:ByteArray)(w:World)(h0:w.cell? ad=some (.iface 3 (.int .i64 n0)))(h1:w.cell? ⟨ad.block,ad.off+1,none⟩=some (.iface 3 (.int .i64 n1)))(h2:w.cell? ⟨ad.block,ad.off+2,none⟩=some (.iface 9 (.string s2)))(hb:ad.block < w.heap.size) :
  Calls Tryz.prog 185 #[.iface 217 (.slice (some ad) 3 c)] w (rowPost (some ⟨n0,n1,⟨2,0,s2⟩⟩) w):=by
 go_enter Tryz.func185,Tryz.ntmps185
 go_wp2
 refine bodyPost_ret (results_row _ _ w.heap.size _ _ _ _ _ _ rfl rfl (alloc_two _ _ _)) rfl ?_
 exact⟨rfl,((Below.refl _ _).alloc (Nat.le_refl _) _).alloc (by simp) _⟩
set_option maxHeartbeats 4000000 in
set_option maxRecDepth 100000 in
theorem row_iil(ad:Addr)(c:Nat)(n0 n1:Int)(v2:Value)(w:World)(h0:w.cell? ad=some (.iface 3 (.int .i64 n0)))(h1:w.cell? ⟨ad.block,ad.off+1,none⟩=some (.iface 3 (.int .i64 n1)))(h2:w.cell? ⟨ad.block,ad.off+2,none⟩=some (.iface 217 v2))(hb:ad.block < w.heap.size) :
  Calls Tryz.prog 185 #[.iface 217 (.slice (some ad) 3 c)] w (rowPost none w):=by
 go_enter Tryz.func185,Tryz.ntmps185
 go_wp2
 refine bodyPost_ret (results_row _ _ w.heap.size _ _ _ _ _ _ rfl rfl (alloc_two _ _ _)) rfl ?_
 exact⟨rfl,((Below.refl _ _).alloc (Nat.le_refl _) _).alloc (by simp) _⟩
theorem three_at{ad:Addr}{w:World}{u:Value}(j:Nat)(hj:0 < j)(h:w.cell? (ad.add j)=some u):w.cell? ⟨ad.block,ad.off+j,none⟩=some u:=by
 have e:ad.add j=⟨ad.block,ad.off+j,none⟩:=by
  have:=add_field ad 0 j hj
  rw[Nat.zero_add,show ad.add 0=ad from by simp[Addr.add]]at this
  exact this
 rw[← e];exact h
theorem isL_of{x:S32}(h1:x.f0≠1)(h2:x.f0≠2):isL x=true:=by unfold isL;rw[decide_eq_false h1,decide_eq_false h2];rfl
theorem row_calls(x:S32)(u:Value)(w:World)(h:AnyAt w x u):Calls Tryz.prog 185 #[u] w (rowPost (rowD x) w):=by
 rcases any_cases h with ⟨h1,rfl⟩ | ⟨h1,rfl⟩ | ⟨h1,h2,A,c,rfl,hl,hC⟩
 ·have:rowD x=none:=by unfold rowD isL;rw[decide_eq_true h1];rfl
  rw[this];exact row_atom _ w (.inl ⟨_,rfl⟩)
 ·have:rowD x=none:=by unfold rowD isL;rw[decide_eq_true h1];simp
  rw[this];exact row_atom _ w (.inr ⟨_,rfl⟩)
 ·have hL:=isL_of h1 h2
  by_cases h3:x.f3.length=3
  ·obtain⟨a,b,d,hx⟩:∃ a b d,x.f3 = [a,b,d]:=by
    match hx:x.f3,h3 with
    | [a,b,d],_=>exact⟨a,b,d,rfl⟩
   have hd:rowD x=if a.f0=1∧b.f0=1 then (if d.f0=1 then some ⟨a.f1,b.f1,⟨1,d.f1,⟨#[]⟩⟩⟩else if d.f0=2 then some ⟨a.f1,b.f1,⟨2,0,d.f2⟩⟩else none)else none:=by
    unfold rowD;rw[if_pos hL,hx]
   rw[hd,h3]
   obtain⟨ad,u0,rfl,c0,k0,hb0⟩:=any_at hC (i:=0) (x:=a) (by rw[hx];rfl)
   obtain⟨ad1,u1,e1,c1,k1,hb1⟩:=any_at hC (i:=1) (x:=b) (by rw[hx];rfl)
   obtain⟨ad2,u2,e2,c2,k2,hb2⟩:=any_at hC (i:=2) (x:=d) (by rw[hx];rfl)
   cases e1;cases e2
   rw[show ad.add 0=ad from by simp[Addr.add]]at c0 hb0
   have c1:=three_at 1 (by decide) c1
   have c2:=three_at 2 (by decide) c2
   rcases any_cases k0 with ⟨q0,rfl⟩ | ⟨q0,rfl⟩ | ⟨q0,q0',A0,d0,rfl,_⟩<;>rcases any_cases k1 with ⟨q1,rfl⟩ | ⟨q1,rfl⟩ | ⟨q1,q1',A1,d1,rfl,_⟩
   ·rw[if_pos ⟨q0,q1⟩]
    rcases any_cases k2 with ⟨q2,rfl⟩ | ⟨q2,rfl⟩ | ⟨q2,q2',A2,d2,rfl,_⟩
    ·rw[if_pos q2];exact row_iii ad c _ _ _ w c0 c1 c2 hb0
    ·rw[if_neg (by omega),if_pos q2];exact row_iis ad c _ _ _ w c0 c1 c2 hb0
    ·rw[if_neg q2,if_neg q2'];exact row_iil ad c _ _ _ w c0 c1 c2 hb0
   ·rw[if_neg (by omega)];exact row_is ad c _ _ _ w c0 c1 c2 hb0
   ·rw[if_neg (by omega)];exact row_il ad c _ _ _ _ _ w c0 c1 c2 hb0
   ·rw[if_neg (by omega)];exact row_si ad c _ _ _ w c0 c1 c2 hb0
   ·rw[if_neg (by omega)];exact row_ss ad c _ _ _ w c0 c1 c2 hb0
   ·rw[if_neg (by omega)];exact row_sl ad c _ _ _ _ _ w c0 c1 c2 hb0
   ·rw[if_neg (by omega)];exact row_li ad c _ _ _ _ _ w c0 c1 c2 hb0
   ·rw[if_neg (by omega)];exact row_ls ad c _ _ _ _ _ w c0 c1 c2 hb0
   ·rw[if_neg (by omega)];exact row_ll ad c _ _ _ _ _ _ _ w c0 c1 c2 hb0
  ·have:rowD x=none:=by
    unfold rowD;rw[if_pos hL]
    split
    ·rename_i hx;rw[hx]at h3;exact absurd rfl h3
    ·rfl
   rw[this];exact row_len A _ c w h3
end Go.Proofs.YtlmabbigfdbmbaaGreatDoor.PShelfNil
namespace Go.Proofs.YtlmabbigfdbmbaaGreatDoor.PShelfNil
open Go.RowKit Go.Proofs.YtlmabbigfdbmbaaGreatDoor.Ord Go.Proofs.YtlmabbigfdbmbaaGreatDoor.Obj Go.Proofs.YtlmabbigfdbmbaaGreatDoorW.PrintWords Go.Proofs.YtlmabbigfdbmbaaGreatDoorW.PrintLast Go.Proofs.YtlmabbigfdbmbaaGreatDoorW.PrintMore
attribute [local irreducible] OpGives
attribute [local go_sem] ta_ii ta_is ta_il ta_si ta_ss ta_sl ta_li ta_ls ta_ll
def kidD(x:S32):Option S115:=
 if isL x then match x.f3 with
  | [a,b]=>if a.f0=1∧b.f0=2 then (if 0≤a.f1∧a.f1≤255 then some ⟨a.f1,b.f2⟩else none)else none
  | _=>none
 else none
def kidVal(r:S115):Value:=.agg #[.int .u8 r.f0,.string r.f1]
def kidPost(o:Option S115)(w:World)(e:Ending)(w':World):Prop:=e = .returned (.tuple #[kidVal (o.getD z115),.bool o.isSome])∧Below w.heap.size w w'
theorem results_kid(tmps:Array Value)(w:World)(c:Nat)(a0 a1 b:Value)(h2:tmps.getD 2 undef = .pointer (some ⟨c,0,none⟩))(h3:tmps.getD 3 undef=b)
  (hc:w.heap[c]? = some (.cells #[a0,a1] 115 (0,0))) :
  (results Tryz.f157 tmps).run Tryz.prog w = .ok (.tuple #[.agg #[a0,a1],b]) w:=by
 have h2':tmps[2]?.getD undef = .pointer (some ⟨c,0,none⟩):=by simpa using h2
 have h3':tmps[3]?.getD undef=b:=by simpa using h3
 obtain⟨k0,k1⟩:=box2 hc
 simp[results,Tryz.results157,h2',h3',asAddr,k0,k1,go_sem]
set_option maxRecDepth 100000 in
theorem kid_atom(u:Value)(w:World)(hu:(∃ v,u = .iface 3 v)∨∃ v,u = .iface 9 v):Calls Tryz.prog 157 #[u] w (kidPost none w):=by
 rcases hu with ⟨v,rfl⟩ | ⟨v,rfl⟩
 ·go_enter Tryz.func157,Tryz.ntmps157
  go_wp2
  refine bodyPost_ret (results_kid _ _ w.heap.size _ _ _ rfl rfl (alloc_lastV _ _)) rfl ?_
  exact⟨rfl,(Below.refl _ _).alloc (Nat.le_refl _) _⟩
 ·go_enter Tryz.func157,Tryz.ntmps157
  go_wp2
  refine bodyPost_ret (results_kid _ _ w.heap.size _ _ _ rfl rfl (alloc_lastV _ _)) rfl ?_
  exact⟨rfl,(Below.refl _ _).alloc (Nat.le_refl _) _⟩
set_option maxRecDepth 100000 in
theorem kid_len(A:Option Addr)(n c:Nat)(w:World)(hn:n≠2):Calls Tryz.prog 157 #[.iface 217 (.slice A n c)] w (kidPost none w):=by
 have hn':((n:Int) == 2)=false:=by rw[beq_eq_false_iff_ne];omega
 go_enter Tryz.func157,Tryz.ntmps157
 go_wp2
 refine bodyPost_ret (results_kid _ _ w.heap.size _ _ _ rfl rfl (alloc_lastV _ _)) rfl ?_
 exact⟨rfl,(Below.refl _ _).alloc (Nat.le_refl _) _⟩
set_option maxHeartbeats 4000000 in
set_option maxRecDepth 100000 in
theorem kid_ii(ad:Addr)(c:Nat)(n0:Int)(n1:Int)(w:World)(h0:w.cell? ad=some (.iface 3 (.int .i64 n0)))(h1:w.cell? ⟨ad.block,ad.off+1,none⟩=some (.iface 3 (.int .i64 n1)))(hb:ad.block < w.heap.size) :
  Calls Tryz.prog 157 #[.iface 217 (.slice (some ad) 2 c)] w (kidPost none w):=by
 go_enter Tryz.func157,Tryz.ntmps157
 go_wp2
 refine bodyPost_ret (results_kid _ _ w.heap.size _ _ _ rfl rfl (alloc_lastV _ _)) rfl ?_
 exact⟨rfl,(Below.refl _ _).alloc (Nat.le_refl _) _⟩
set_option maxHeartbeats 4000000 in
set_option maxRecDepth 100000 in
theorem kid_il(ad:Addr)(c:Nat)(n0:Int)(v1:Value)(w:World)(h0:w.cell? ad=some (.iface 3 (.int .i64 n0)))(h1:w.cell? ⟨ad.block,ad.off+1,none⟩=some (.iface 217 v1))(hb:ad.block < w.heap.size) :
  Calls Tryz.prog 157 #[.iface 217 (.slice (some ad) 2 c)] w (kidPost none w):=by
 go_enter Tryz.func157,Tryz.ntmps157
 go_wp2
 refine bodyPost_ret (results_kid _ _ w.heap.size _ _ _ rfl rfl (alloc_lastV _ _)) rfl ?_
 exact⟨rfl,(Below.refl _ _).alloc (Nat.le_refl _) _⟩
set_option maxHeartbeats 4000000 in
set_option maxRecDepth 100000 in
theorem kid_si(ad:Addr)(c:Nat)(s0:ByteArray)(n1:Int)(w:World)(h0:w.cell? ad=some (.iface 9 (.string s0)))(h1:w.cell? ⟨ad.block,ad.off+1,none⟩=some (.iface 3 (.int .i64 n1)))(hb:ad.block < w.heap.size) :
  Calls Tryz.prog 157 #[.iface 217 (.slice (some ad) 2 c)] w (kidPost none w):=by
 go_enter Tryz.func157,Tryz.ntmps157
 go_wp2
 refine bodyPost_ret (results_kid _ _ w.heap.size _ _ _ rfl rfl (alloc_lastV _ _)) rfl ?_
 exact⟨rfl,(Below.refl _ _).alloc (Nat.le_refl _) _⟩
set_option maxHeartbeats 4000000 in
set_option maxRecDepth 100000 in
theorem kid_ss(ad:Addr)(c:Nat)(s0:ByteArray)(s1:ByteArray)(w:World)(h0:w.cell? ad=some (.iface 9 (.string s0)))(h1:w.cell? ⟨ad.block,ad.off+1,none⟩=some (.iface 9 (.string s1)))(hb:ad.block < w.heap.size) :
  Calls Tryz.prog 157 #[.iface 217 (.slice (some ad) 2 c)] w (kidPost none w):=by
 go_enter Tryz.func157,Tryz.ntmps157
 go_wp2
 refine bodyPost_ret (results_kid _ _ w.heap.size _ _ _ rfl rfl (alloc_lastV _ _)) rfl ?_
 exact⟨rfl,(Below.refl _ _).alloc (Nat.le_refl _) _⟩
set_option maxHeartbeats 4000000 in
set_option maxRecDepth 100000 in
theorem kid_sl(ad:Addr)(c:Nat)(s0:ByteArray)(v1:Value)(w:World)(h0:w.cell? ad=some (.iface 9 (.string s0)))(h1:w.cell? ⟨ad.block,ad.off+1,none⟩=some (.iface 217 v1))(hb:ad.block < w.heap.size) :
  Calls Tryz.prog 157 #[.iface 217 (.slice (some ad) 2 c)] w (kidPost none w):=by
 go_enter Tryz.func157,Tryz.ntmps157
 go_wp2
 refine bodyPost_ret (results_kid _ _ w.heap.size _ _ _ rfl rfl (alloc_lastV _ _)) rfl ?_
 exact⟨rfl,(Below.refl _ _).alloc (Nat.le_refl _) _⟩
set_option maxHeartbeats 4000000 in
set_option maxRecDepth 100000 in
theorem kid_li(ad:Addr)(c:Nat)(v0:Value)(n1:Int)(w:World)(h0:w.cell? ad=some (.iface 217 v0))(h1:w.cell? ⟨ad.block,ad.off+1,none⟩=some (.iface 3 (.int .i64 n1)))(hb:ad.block < w.heap.size) :
  Calls Tryz.prog 157 #[.iface 217 (.slice (some ad) 2 c)] w (kidPost none w):=by
 go_enter Tryz.func157,Tryz.ntmps157
 go_wp2
 refine bodyPost_ret (results_kid _ _ w.heap.size _ _ _ rfl rfl (alloc_lastV _ _)) rfl ?_
 exact⟨rfl,(Below.refl _ _).alloc (Nat.le_refl _) _⟩
set_option maxHeartbeats 4000000 in
set_option maxRecDepth 100000 in
theorem kid_ls(ad:Addr)(c:Nat)(v0:Value)(s1:ByteArray)(w:World)(h0:w.cell? ad=some (.iface 217 v0))(h1:w.cell? ⟨ad.block,ad.off+1,none⟩=some (.iface 9 (.string s1)))(hb:ad.block < w.heap.size) :
  Calls Tryz.prog 157 #[.iface 217 (.slice (some ad) 2 c)] w (kidPost none w):=by
 go_enter Tryz.func157,Tryz.ntmps157
 go_wp2
 refine bodyPost_ret (results_kid _ _ w.heap.size _ _ _ rfl rfl (alloc_lastV _ _)) rfl ?_
 exact⟨rfl,(Below.refl _ _).alloc (Nat.le_refl _) _⟩
set_option maxHeartbeats 4000000 in
set_option maxRecDepth 100000 in
theorem kid_ll(ad:Addr)(c:Nat)(v0:Value)(v1:Value)(w:World)(h0:w.cell? ad=some (.iface 217 v0))(h1:w.cell? ⟨ad.block,ad.off+1,none⟩=some (.iface 217 v1))(hb:ad.block < w.heap.size) :
  Calls Tryz.prog 157 #[.iface 217 (.slice (some ad) 2 c)] w (kidPost none w):=by
 go_enter Tryz.func157,Tryz.ntmps157
 go_wp2
 refine bodyPost_ret (results_kid _ _ w.heap.size _ _ _ rfl rfl (alloc_lastV _ _)) rfl ?_
 exact⟨rfl,(Below.refl _ _).alloc (Nat.le_refl _) _⟩
set_option maxHeartbeats 4000000 in
set_option maxRecDepth 100000 in
theorem kid_ok(ad:Addr)(c:Nat)(n0:Int)(s1:ByteArray)(w:World)(h0:w.cell? ad=some (.iface 3 (.int .i64 n0)))(h1:w.cell? ⟨ad.block,ad.off+1,none⟩=some (.iface 9 (.string s1)))(hb:ad.block < w.heap.size)(hn0:0≤n0)(hn1:n0≤255) :
  Calls Tryz.prog 157 #[.iface 217 (.slice (some ad) 2 c)] w (kidPost (some ⟨n0,s1⟩) w):=by
 have hn0':¬ n0 < 0:=by omega
 have hn1':¬ (255:Int) < n0:=by omega
 have hwn:IntKind.u8.wrap n0=n0:=by rw[IntKind.wrap_u8];omega
 go_enter Tryz.func157,Tryz.ntmps157
 go_wp2
 refine bodyPost_ret (results_kid _ _ w.heap.size _ _ _ rfl rfl (alloc_lastV _ _)) rfl ?_
 exact⟨rfl,(Below.refl _ _).alloc (Nat.le_refl _) _⟩
set_option maxHeartbeats 4000000 in
set_option maxRecDepth 100000 in
theorem kid_neg(ad:Addr)(c:Nat)(n0:Int)(s1:ByteArray)(w:World)(h0:w.cell? ad=some (.iface 3 (.int .i64 n0)))(h1:w.cell? ⟨ad.block,ad.off+1,none⟩=some (.iface 9 (.string s1)))(hb:ad.block < w.heap.size)(hn0:n0 < 0) :
  Calls Tryz.prog 157 #[.iface 217 (.slice (some ad) 2 c)] w (kidPost none w):=by
 go_enter Tryz.func157,Tryz.ntmps157
 go_wp2
 refine bodyPost_ret (results_kid _ _ w.heap.size _ _ _ rfl rfl (alloc_lastV _ _)) rfl ?_
 exact⟨rfl,(Below.refl _ _).alloc (Nat.le_refl _) _⟩
set_option maxHeartbeats 4000000 in
set_option maxRecDepth 100000 in
theorem kid_big(ad:Addr)(c:Nat)(n0:Int)(s1:ByteArray)(w:World)(h0:w.cell? ad=some (.iface 3 (.int .i64 n0)))(h1:w.cell? ⟨ad.block,ad.off+1,none⟩=some (.iface 9 (.string s1)))(hb:ad.block < w.heap.size)(hn0:255 < n0) :
  Calls Tryz.prog 157 #[.iface 217 (.slice (some ad) 2 c)] w (kidPost none w):=by
 have hn0':¬ n0 < 0:=by omega
 go_enter Tryz.func157,Tryz.ntmps157
 go_wp2
 refine bodyPost_ret (results_kid _ _ w.heap.size _ _ _ rfl rfl (alloc_lastV _ _)) rfl ?_
 exact⟨rfl,(Below.refl _ _).alloc (Nat.le_refl _) _⟩
theorem kid_calls(x:S32)(u:Value)(w:World)(h:AnyAt w x u):Calls Tryz.prog 157 #[u] w (kidPost (kidD x) w):=by
 rcases any_cases h with ⟨h1,rfl⟩ | ⟨h1,rfl⟩ | ⟨h1,h2,A,c,rfl,hl,hC⟩
 ·have:kidD x=none:=by unfold kidD isL;rw[decide_eq_true h1];rfl
  rw[this];exact kid_atom _ w (.inl ⟨_,rfl⟩)
 ·have:kidD x=none:=by unfold kidD isL;rw[decide_eq_true h1];simp
  rw[this];exact kid_atom _ w (.inr ⟨_,rfl⟩)
 ·have hL:=isL_of h1 h2
  by_cases h3:x.f3.length=2
  ·obtain⟨a,b,hx⟩:∃ a b,x.f3 = [a,b]:=by
    match hx:x.f3,h3 with
    | [a,b],_=>exact⟨a,b,rfl⟩
   have hd:kidD x=if a.f0=1∧b.f0=2 then (if 0≤a.f1∧a.f1≤255 then some ⟨a.f1,b.f2⟩else none)else none:=by
    unfold kidD;rw[if_pos hL,hx]
   rw[hd,h3]
   obtain⟨ad,u0,rfl,c0,k0,hb0⟩:=any_at hC (i:=0) (x:=a) (by rw[hx];rfl)
   obtain⟨ad1,u1,e1,c1,k1,hb1⟩:=any_at hC (i:=1) (x:=b) (by rw[hx];rfl)
   cases e1
   rw[show ad.add 0=ad from by simp[Addr.add]]at c0 hb0
   have c1:=three_at 1 (by decide) c1
   rcases any_cases k0 with ⟨q0,rfl⟩ | ⟨q0,rfl⟩ | ⟨q0,q0',A0,d0,rfl,_⟩<;>rcases any_cases k1 with ⟨q1,rfl⟩ | ⟨q1,rfl⟩ | ⟨q1,q1',A1,d1,rfl,_⟩
   ·rw[if_neg (by omega)];exact kid_ii ad c _ _ w c0 c1 hb0
   ·rw[if_pos ⟨q0,q1⟩]
    by_cases hneg:a.f1 < 0
    ·rw[if_neg (by omega)];exact kid_neg ad c _ _ w c0 c1 hb0 hneg
    ·by_cases hbig:255 < a.f1
     ·rw[if_neg (by omega)];exact kid_big ad c _ _ w c0 c1 hb0 hbig
     ·rw[if_pos (by omega)];exact kid_ok ad c _ _ w c0 c1 hb0 (by omega) (by omega)
   ·rw[if_neg (by omega)];exact kid_il ad c _ _ w c0 c1 hb0
   ·rw[if_neg (by omega)];exact kid_si ad c _ _ w c0 c1 hb0
   ·rw[if_neg (by omega)];exact kid_ss ad c _ _ w c0 c1 hb0
   ·rw[if_neg (by omega)];exact kid_sl ad c _ _ w c0 c1 hb0
   ·rw[if_neg (by omega)];exact kid_li ad c _ _ w c0 c1 hb0
   ·rw[if_neg (by omega)];exact kid_ls ad c _ _ w c0 c1 hb0
   ·rw[if_neg (by omega)];exact kid_ll ad c _ _ w c0 c1 hb0
  ·have:kidD x=none:=by
    unfold kidD;rw[if_pos hL]
    split
    ·rename_i hx;rw[hx]at h3;exact absurd rfl h3
    ·rfl
   rw[this];exact kid_len A _ c w h3
end Go.Proofs.YtlmabbigfdbmbaaGreatDoor.PShelfNil
namespace Go.Proofs.YtlmabbigfdbmbaaGreatDoor.PShelfNil
open Go.RowKit Go.Proofs.YtlmabbigfdbmbaaGreatDoor.Ord Go.Proofs.YtlmabbigfdbmbaaGreatDoor.Obj Go.Proofs.YtlmabbigfdbmbaaGreatDoorW.PrintWords Go.Proofs.YtlmabbigfdbmbaaGreatDoorW.PrintLast Go.Proofs.YtlmabbigfdbmbaaGreatDoorW.PrintMore
attribute [local irreducible] OpGives
attribute [local go_sem] ta_ii ta_is ta_il ta_si ta_ss ta_sl ta_li ta_ls ta_ll
def rowsD:List S32→Option (List S174)
 | []=>some []
 | x :: xs=>match rowD x with | none=>none | some r=>(rowsD xs).map (r :: ·)
def takenP(R:Option (List S174)):List S174 × Bool:=match R with | some rs=>(rs,okRows rs) | none=>([],false)
def takenR(x:S32):List S174 × Bool:=if isL x then takenP (rowsD x.f3)else ([],false)
theorem rowsD_step{l acc:List S32}{i:Nat}{x:S32}(h:l[i]? = some x):rowsD (l.drop i)=match rowD x with | none=>none | some r=>(rowsD (l.drop (i+1))).map (r :: ·):=by
 obtain⟨hi,hx⟩:=List.getElem?_eq_some_iff.1 h
 rw[List.drop_eq_getElem_cons hi,rowsD,hx]
abbrev rR(W:World)(base:Nat)(v:Value)(l:List S174):Prop:=Kd.R k174 174 W base (fun _=>True) v l
theorem infoRow:(Tryz.prog.info? 174).map (fun i=>(i.zero,i.size,i.bytes))=some (some (.agg #[.int .i64 0,.int .i64 0,.int .i64 0,.int .i64 0,.string (⟨#[]⟩:ByteArray)]),5,48):=by kernel_rfl
theorem append_row{W:World}{b0:Nat}{v:Value}{acc:List S174}{x:S174}{g:Nat}(hR:rR W b0 v acc)(hb0:b0≤W.heap.size)
  (hg:W.heap[g]? = some (.cells #[.int .i64 x.f0,.int .i64 x.f1,.int .i64 x.f2.f0,.int .i64 x.f2.f1,.string x.f2.f2] 174 (0,0))) (hn:acc.length≤1000000) (ty:TypeId) :
  ∃ v' W',(Builtin.append_ #[23,23] ty #[v,.slice (some ⟨g,0,none⟩) 1 1]).run Tryz.prog W = .ok v' W'∧W.grownBy W' v.ownBlock∧rR W' b0 v' (acc ++ [x]):=by
 obtain⟨i0,hi0,hz0,hz1,hz2⟩:=info_parts infoRow
 have hgs:=(Array.getElem?_eq_some_iff.1 hg).1
 obtain⟨h0,inner,hown,hreps⟩:=hR
 have hbn:(acc.length+1) * 48≤1000001 * 48:=Nat.mul_le_mul (by omega) (Nat.le_refl _)
 obtain⟨h,cap,W',hr,hown',hgr,hat,_⟩:=run_append_lies (P:=Tryz.prog) W 23 ty b0 174 i0 _ 5 48 Tryz.underlying23 hi0 hz0 hz1 hz2 (by rfl) (by decide) v acc.length _ hown ⟨g,0,none⟩ 1 1 [.int .i64 x.f0,.int .i64 x.f1,.int .i64 x.f2.f0,.int .i64 x.f2.f1,.string x.f2.f2]
  (by rfl) (World.news_of_block (cs:=#[.int .i64 x.f0,.int .i64 x.f1,.int .i64 x.f2.f0,.int .i64 x.f2.f1,.string x.f2.f2]) hg) (by
   intro u hu
   simp only[List.mem_cons,List.not_mem_nil,or_false]at hu
   rcases hu with rfl | rfl | rfl | rfl | rfl<;>rfl) (by decide) (by unfold maxLen;omega) (by omega) hb0 W.heap.size rfl
 have hm3:Kd.M k174 W b0 (fun _=>False) x [.int .i64 x.f0,.int .i64 x.f1,.int .i64 x.f2.f0,.int .i64 x.f2.f1,.string x.f2.f2]:=k174_mkM W b0 _ x
 have hres:=Kd.R_appended (d:=k174) (e:=174) (base:=b0) (ok:=fun _=>True) (W:=W) (w1:=W') (v:=v) (v1:=.slice (some ⟨h,0,none⟩) (acc.length+1) cap) h0 hreps hm3 (fun k hk=>hk.elim) (fun k hk=>trivial) hown' hgr
  (hat.elim (fun e=> .inl (by rw[e];rfl)) (fun e=> .inr ⟨h,rfl,by omega⟩))
 exact⟨_,W',hr,hgr,hres⟩
theorem grown_belowK{α:Type}{d:Kd α}{e:Nat}{ok:Nat→Prop}{W W':World}{b0:Nat}{v:Value}{w:World}{acc:List α}(hR:d.R e W b0 ok v acc)(h:W.grownBy W' v.ownBlock)(hb:Below b0 w W)(hs:b0≤W.heap.size):Below b0 w W':=by
 have:Below b0 W W':=⟨h.os,h.tape,h.output,h.size,fun k hk=>by
  by_cases e:some k=v.ownBlock
  ·obtain⟨_,inner,hown,_⟩:=hR
   have:=own_base hown k e.symm;omega
  ·exact h.block k (by omega) e⟩
 exact hb.trans this
def TakenPost(r:List S174 × Bool)(w:World)(e:Ending)(w':World):Prop:=∃ A c,e = .returned (.tuple #[.slice A r.1.length c,.bool r.2])∧rR w' w.heap.size (.slice A r.1.length c) r.1∧Below w.heap.size w w'
set_option maxRecDepth 100000 in
theorem taken_atom(u:Value)(w:World)(hu:(∃ v,u = .iface 3 v)∨∃ v,u = .iface 9 v):Calls Tryz.prog 156 #[u] w (TakenPost ([],false) w):=by
 rcases hu with ⟨v,rfl⟩ | ⟨v,rfl⟩
 ·go_enter Tryz.func156,Tryz.ntmps156
  go_wp2
  go_ret2
  exact⟨none,0,rfl,Kd.R_nil _ _ _ _ _,Below.refl _ _⟩
 ·go_enter Tryz.func156,Tryz.ntmps156
  go_wp2
  go_ret2
  exact⟨none,0,rfl,Kd.R_nil _ _ _ _ _,Below.refl _ _⟩
set_option maxHeartbeats 8000000 in
set_option maxRecDepth 100000 in
theorem taken_list(l:List S32)(A:Option Addr)(c:Nat)(w:World)(hA:kA.C w A l.length l)(hl:l.length≤1000000)(hT:Lib.Utf8Tabs 1 2 w) :
  Calls Tryz.prog 156 #[.iface 217 (.slice A l.length c)] w (TakenPost (takenP (rowsD l)) w):=by
 obtain⟨R,hR⟩:∃ R,R=rowsD l:=⟨_,rfl⟩
 rw[← hR]
 have HA:=Lib.hid hA
 have HT:=Lib.hid hT
 have HRR:=Lib.hid (show R=(rowsD (l.drop 0)).map (([]:List S174) ++ ·)by rw[hR,List.drop_zero];simp)
 clear hR hA hT
 obtain⟨RP,hRP⟩:∃ RP:Ending→World→Prop,RP=TakenPost (takenP R) w:=⟨_,rfl⟩
 rw[← hRP]
 have HRP:=Lib.hid hRP
 clear hRP
 go_enter Tryz.func156,Tryz.ntmps156
 go_wp2_with fail
 go_loopw [6,20] (fun v i wr=>∃ (j:Nat) (acc:List S174),i = .int .i64 (j:Int)∧j≤l.length∧acc.length=j∧rR wr w.heap.size v acc∧Below w.heap.size w wr∧Hid (R=(rowsD (l.drop j)).map (acc ++ ·))) (fun _ i _=>l.length - (intOf i).toNat)
 case atStart=>exact⟨0,[],rfl,Nat.zero_le _,rfl,Kd.R_nil _ _ _ _ _,Below.refl _ _,HRR⟩
 case round=>
  obtain⟨i,acc,rfl,hi,hal,hrow,hbe,hr⟩:=hrel
  have HROW:=Lib.hid hrow
  have HBE:=Lib.hid hbe
  have HAL:=Lib.hid hal
  by_cases hil:i < l.length
  ·obtain⟨x,hx⟩:∃ x,l[i]? = some x:=⟨_,List.getElem?_eq_getElem hil⟩
   obtain⟨ad,u,rfl,c0,hu,hbk⟩:=any_at (Kd.C_below HA.out hbe) hx
   have hst:=rowsD_step (acc:=[]) hx
   have hr2:=hr.out
   rw[hst]at hr2
   have HR2:=Lib.hid hr2
   have hcall:=row_calls x u wr hu
   clear hst hr2 hr hx hu hrow hbe hal
   cases hrd:rowD x with
   | none=>
    rw[hrd]at hcall HR2
    have HC:=Lib.hid hcall
    have hR3:R=none:=HR2.out
    subst hR3
    clear hcall hrd HR2
    go_wp2_with fail
    refine HC.out.mono ?_
    rintro e W2 ⟨rfl,hb2⟩
    have HF:=Lib.hid (HBE.out.trans (hb2.mono HBE.out.size))
    clear hb2
    unfold rowVal
    simp only[Option.getD_none,Option.isSome_none]
    go_wp2_with fail
    rw[HRP.out]
    exact⟨none,0,rfl,Kd.R_nil _ _ _ _ _,HF.out.alloc HF.out.size _⟩
   | some y=>
    rw[hrd]at hcall HR2
    have HC:=Lib.hid hcall
    clear hcall hrd
    go_wp2_with fail
    refine HC.out.mono ?_
    rintro e W2 ⟨rfl,hb2⟩
    obtain⟨W3,hW3⟩:∃ W3,W3=W2.alloc (.cells #[.int .i64 y.f0,.int .i64 y.f1,.int .i64 y.f2.f0,.int .i64 y.f2.f1,.string y.f2.f2] 174):=⟨_,rfl⟩
    have hn3:Below W2.heap.size W2 W3:=by rw[hW3];exact(Below.refl _ _).alloc (Nat.le_refl _) _
    obtain⟨W4,hW4⟩:∃ W4,W4=W3.alloc (.cells #[.int .i64 y.f0,.int .i64 y.f1,.int .i64 y.f2.f0,.int .i64 y.f2.f1,.string y.f2.f2] 174):=⟨_,rfl⟩
    have hn4:Below W3.heap.size W3 W4:=by rw[hW4];exact(Below.refl _ _).alloc (Nat.le_refl _) _
    have hg4:W4.heap[W3.heap.size]? = some (.cells #[.int .i64 y.f0,.int .i64 y.f1,.int .i64 y.f2.f0,.int .i64 y.f2.f1,.string y.f2.f2] 174 (0,0)):=by rw[hW4];exact alloc_lastV _ _
    have hbw:Below wr.heap.size wr W4:=(hb2.trans (hn3.mono hb2.size)).trans (hn4.mono (Nat.le_trans hb2.size hn3.size))
    have hrW:=Kd.R_below HROW.out hbw
    obtain⟨v8,W8,hr8,hg8,hR8⟩:=append_row (b0:=w.heap.size) hrW (Nat.le_trans HBE.out.size hbw.size) hg4 (by have:=HAL.out;omega) 23
    have hB8:=grown_belowK hrW hg8 (HBE.out.trans (hbw.mono HBE.out.size)) (Nat.le_trans HBE.out.size hbw.size)
    have HR8:=Lib.hid hR8
    have HB8:=Lib.hid hB8
    have hs3:W3.heap.size=W2.heap.size+1:=by rw[hW3];simp
    rw[hs3,hW4,hW3]at hr8
    have HAPP:=Lib.hid hr8
    have HR9:=Lib.hid (show R=(rowsD (l.drop (i+1))).map ((acc ++ [y]) ++ ·)by
     rw[HR2.out,Option.map_map];congr 1;funext z;simp)
    clear hg8 hR8 hB8 hrW hbw hg4 hn4 hW4 hn3 hW3 hb2 hr8 hs3
    unfold rowVal
    simp only[Option.getD_some,Option.isSome_some]
    go_wp2_with (refine wpList_value rfl (exec_append _ _ 23 rfl HAPP.out) ?_)
    go_roundw
    case rel=>exact⟨i+1,acc ++ [y],by go_num,hil,by rw[List.length_append];have:=HAL.out;simp;omega,HR8.out,HB8.out,HR9⟩
    case measure=>simp[intOf];omega
  ·have hie:i=l.length:=by omega
   have hr2:=hr.out
   rw[hie,List.drop_length,rowsD,Option.map_some,List.append_nil]at hr2
   subst hr2
   obtain⟨A3,c3,rfl,hlc,hC⟩:=Kd.R_reads hrow
   have HS:=Lib.hid (scheck_calls acc A3 c3 wr hC hlc (Utf8Tabs_below HT.out hbe))
   have HCC:=Lib.hid hrow
   clear hrow hie hbe hC hal hr
   cases hok:okRows acc with
   | true=>
    rw[hok]at HS
    go_wp2_with fail
    refine HS.out.mono ?_
    rintro e W2 ⟨rfl,hb2⟩
    have HF:=Lib.hid (HBE.out.trans (hb2.mono HBE.out.size))
    have HC2:=Lib.hid (Kd.R_below HCC.out hb2)
    clear hb2
    go_wp2_with fail
    rw[HRP.out]
    exact⟨A3,c3,by simp only[takenP,hok];rfl,HC2.out,HF.out⟩
   | false=>
    rw[hok]at HS
    go_wp2_with fail
    refine HS.out.mono ?_
    rintro e W2 ⟨rfl,hb2⟩
    have HF:=Lib.hid (HBE.out.trans (hb2.mono HBE.out.size))
    have HC2:=Lib.hid (Kd.R_below HCC.out hb2)
    clear hb2
    go_wp2_with fail
    rw[HRP.out]
    exact⟨A3,c3,by simp only[takenP,hok];rfl,HC2.out,HF.out⟩
theorem taken_calls(x:S32)(u:Value)(w:World)(h:AnyAt w x u)(hl:x.f3.length≤1000000)(hT:Lib.Utf8Tabs 1 2 w):Calls Tryz.prog 156 #[u] w (TakenPost (takenR x) w):=by
 rcases any_cases h with ⟨h1,rfl⟩ | ⟨h1,rfl⟩ | ⟨h1,h2,A,c,rfl,hlc,hC⟩
 ·have:takenR x=([],false):=by unfold takenR isL;rw[decide_eq_true h1];rfl
  rw[this];exact taken_atom _ w (.inl ⟨_,rfl⟩)
 ·have:takenR x=([],false):=by unfold takenR isL;rw[decide_eq_true h1];simp
  rw[this];exact taken_atom _ w (.inr ⟨_,rfl⟩)
 ·have:takenR x=takenP (rowsD x.f3):=by unfold takenR;rw[if_pos (isL_of h1 h2)]
  rw[this];exact taken_list x.f3 A c w hC hl hT
end Go.Proofs.YtlmabbigfdbmbaaGreatDoor.PShelfNil
namespace Go.Proofs.YtlmabbigfdbmbaaGreatDoor.PShelfNil
open Go.RowKit Go.Proofs.YtlmabbigfdbmbaaGreatDoor.Ord Go.Proofs.YtlmabbigfdbmbaaGreatDoor.Obj Go.Proofs.YtlmabbigfdbmbaaGreatDoorW.PrintWords Go.Proofs.YtlmabbigfdbmbaaGreatDoorW.PrintLast Go.Proofs.YtlmabbigfdbmbaaGreatDoorW.PrintMore
attribute [local irreducible] OpGives
def okOb(o:Ob):Bool:=if o.kind=1 then okNode o else if o.kind=2 then okCommit o else false
def formV(o:Ob)(a:Array Value):Value:=if okOb o then (if o.kind=1 then .iface 197 (.agg a)else .iface 198 (.agg a))else .nilIface
set_option maxHeartbeats 8000000 in
set_option maxRecDepth 100000 in
theorem formed_calls(o:Ob)(Ar:Option Addr)(cr:Nat)(Ak:Option Addr)(ck:Nat)(Ap:Option Addr)(cp:Nat)(w:World)(hO:ObAt w o Ar cr Ak ck Ap cp)(hT:Lib.Utf8Tabs 1 2 w) :
  Calls Tryz.prog 79 #[.agg (obV o Ar cr Ak ck Ap cp)] w fun e w'=>e = .returned (formV o (obV o Ar cr Ak ck Ap cp))∧Below w.heap.size w w':=by
 obtain⟨W1,hW1⟩:∃ W1,W1=w.alloc (.cells (obV o Ar cr Ak ck Ap cp) 27):=⟨_,rfl⟩
 have hn1:Below w.heap.size w W1:=by rw[hW1];exact(Below.refl _ _).alloc (Nat.le_refl _) _
 have hg1:W1.heap[w.heap.size]? = some (.cells (obV o Ar cr Ak ck Ap cp) 27 (0,0)):=by rw[hW1];exact alloc_lastV _ _
 unfold obV at hg1
 obtain⟨⟨b0,b1,b2,b3⟩,b4,b5,b6,b7⟩:=box8 hg1
 have HNR:=Lib.hid (nright_calls o Ar cr Ak ck Ap cp W1 (hO.below hn1) (Utf8Tabs_below hT hn1))
 have HCR:=Lib.hid (cright_calls o Ar cr Ak ck Ap cp W1 (hO.below hn1))
 have HN1:=Lib.hid hn1
 unfold formV okOb
 unfold obV at hW1 HNR HCR ⊢
 rw[hW1]at b0 b1 b2 b3 b4 b5 b6 b7
 have HW1:=Lib.hid hW1
 generalize okNode o=rn at HNR ⊢
 generalize okCommit o=rc at HCR ⊢
 clear hW1 hn1 hg1 hO hT
 obtain⟨knd,lab,rws,kds,prs,stp,nte,rot⟩:=o
 simp only at HNR HCR HW1 b0 b1 b2 b3 b4 b5 b6 b7 ⊢
 by_cases hk1:knd=1
 ·subst hk1
  simp only[if_true]
  go_enter Tryz.func79,Tryz.ntmps79
  go_wp2_with fail
  rw[← HW1.out]
  refine HNR.out.mono ?_
  rintro e W2 ⟨rfl,hb2⟩
  have HF:=Lib.hid (HN1.out.trans (hb2.mono HN1.out.size))
  clear hb2
  cases rn with
  | true=>
   go_wp2_with fail
   go_ret
   exact⟨rfl,HF.out⟩
  | false=>
   go_wp2_with fail
   go_ret
   exact⟨rfl,HF.out⟩
 ·have hk1':(knd == 1)=false:=by simpa using hk1
  rw[if_neg hk1]
  by_cases hk2:knd=2
  ·subst hk2
   simp only[if_true]
   clear hk1 hk1'
   go_enter Tryz.func79,Tryz.ntmps79
   go_wp2_with fail
   rw[← HW1.out]
   refine HCR.out.mono ?_
   rintro e W2 ⟨rfl,hb2⟩
   have HF:=Lib.hid (HN1.out.trans (hb2.mono HN1.out.size))
   clear hb2
   cases rc with
   | true=>
    go_wp2_with fail
    go_ret
    exact⟨rfl,HF.out⟩
   | false=>
    go_wp2_with fail
    go_ret
    exact⟨rfl,HF.out⟩
  ·have hk2':(knd == 2)=false:=by simpa using hk2
   rw[if_neg hk2]
   go_enter Tryz.func79,Tryz.ntmps79
   go_wp2_with fail
   rw[← HW1.out]
   go_ret
   exact⟨rfl,HN1.out⟩
end Go.Proofs.YtlmabbigfdbmbaaGreatDoor.PShelfNil
namespace Go.Proofs.YtlmabbigfdbmbaaGreatDoor.PShelfNil
open Go.RowKit Go.Proofs.YtlmabbigfdbmbaaGreatDoor.Ord Go.Proofs.YtlmabbigfdbmbaaGreatDoor.Obj Go.Proofs.YtlmabbigfdbmbaaGreatDoorW.PrintWords Go.Proofs.YtlmabbigfdbmbaaGreatDoorW.PrintLast Go.Proofs.YtlmabbigfdbmbaaGreatDoorW.PrintMore
theorem okS_num(d:Nat)(n:Int):okS (d+1) (numC n)=true:=by unfold numC;rw[okS,if_pos rfl];rfl
theorem okS_text(d:Nat){s:ByteArray}(h:s.size≤65535):okS (d+1) (textC s)=true:=by
 unfold textC;rw[okS,if_neg (by decide),if_pos rfl];simp[h]
theorem okS_list(d:Nat){l:List S32}(h:l.length≤4095)(hl:∀ y∈l,okS d y=true):okS (d+1) (listC l)=true:=by
 unfold listC;rw[okS,if_neg (by decide),if_neg (by decide),if_pos rfl]
 simp only[decide_true,Bool.true_and,Bool.and_eq_true,decide_eq_true_eq]
 exact⟨rfl,h,List.all_eq_true.2 hl⟩
theorem wfS_num{n:Int}(h0 : -9223372036854775808≤n)(h1:n≤9223372036854775807):wfS (numC n):=by unfold numC;rw[wfS,wfL];exact⟨h0,h1,by decide,by decide,trivial⟩
theorem wfS_text{s:ByteArray}(h:s.size≤65535):wfS (textC s):=by unfold textC;rw[wfS,wfL];exact⟨by decide,by decide,by omega,by decide,trivial⟩
theorem wfS_list{l:List S32}(h:l.length≤4095)(hl:∀ y∈l,wfS y):wfS (listC l):=by unfold listC;rw[wfS];exact⟨by decide,by decide,by decide,by omega,wfL_of hl⟩
theorem parts_num(n:Int):parts (numC n)=1:=by unfold numC;rw[parts,partsL];rfl
theorem parts_text{s:ByteArray}(h:s.size < 100):parts (textC s)=1:=by unfold textC;rw[parts,partsL];omega
theorem parts_list(l:List S32):parts (listC l)=1+partsL l:=by unfold listC;rw[parts];rfl
theorem partsL_le{n:Nat} : ∀ {l:List S32},(∀ y∈l,parts y≤n)→partsL l≤l.length * n
 | [],_=>by rw[partsL];omega
 | x :: xs,h=>by
  rw[partsL,List.length_cons,Nat.add_mul,Nat.one_mul]
  have:=partsL_le (fun y hy=>h y (List.mem_cons_of_mem _ hy))
  have:=h x List.mem_cons_self
  omega
structure Fine(d n:Nat)(x:S32):Prop where
 ok:okS d x=true
 wf:wfS x
 pt:parts x≤n
theorem fine_num(d:Nat){n:Int}(h0 : -9223372036854775808≤n)(h1:n≤9223372036854775807):Fine (d+1) 1 (numC n):=⟨okS_num d n,wfS_num h0 h1,by rw[parts_num];exact Nat.le_refl _⟩
theorem fine_text(d:Nat){s:ByteArray}(h:s.size < 100):Fine (d+1) 1 (textC s):=⟨okS_text d (by omega),wfS_text (by omega),by rw[parts_text h];exact Nat.le_refl _⟩
theorem fine_list(d:Nat){n:Nat}{l:List S32}(h:l.length≤4095)(hl:∀ y∈l,Fine d n y):Fine (d+1) (1+l.length * n) (listC l):=
 ⟨okS_list d h (fun y hy=>(hl y hy).ok),wfS_list h (fun y hy=>(hl y hy).wf),by rw[parts_list];have:=partsL_le (fun y hy=>(hl y hy).pt);omega⟩
theorem Fine.mono{d n m:Nat}{x:S32}(h:Fine d n x)(hm:n≤m):Fine d m x:=⟨h.ok,h.wf,Nat.le_trans h.pt hm⟩
structure wfOb(o:Ob):Prop where
 stamp : -9223372036854775808≤o.stamp∧o.stamp≤9223372036854775807
 rows:∀ x∈o.rows,(-9223372036854775808≤x.f0∧x.f0≤9223372036854775807)∧(-9223372036854775808≤x.f1∧x.f1≤9223372036854775807)∧-9223372036854775808≤x.f2.f1∧x.f2.f1≤9223372036854775807
 kids:∀ x∈o.kids,0≤x.f0∧x.f0≤255
theorem okV_size{v:S172}(h:okV v=true):v.f2.size≤40∧(v.f0=1∨v.f0=2)∧(v.f0=1→v.f2.size=0)∧(v.f0=2→v.f1=0):=by
 unfold okV at h
 split at h
 ·rename_i h1
  have h2:v.f2.size=0:=of_decide_eq_true h
  exact⟨by omega,.inl h1,fun _=>h2,fun h3=>by omega⟩
 ·split at h
  ·rename_i h1 h2
   simp only[Bool.and_eq_true,decide_eq_true_eq]at h
   exact⟨h.2.1,.inr h2,fun h3=>by omega,fun _=>h.1⟩
  ·cases h
theorem rowsFrom_mem:∀ {l:List S174} {p:Option S174},rowsFrom p l=true→∀ x∈l,isS x.f0 x.f1=true∧okV x.f2=true
 | [],_,_,x,hx=>by cases hx
 | y :: ys,p,h,x,hx=>by
  rw[rowsFrom]at h
  simp only[Bool.and_eq_true]at h
  rcases List.mem_cons.1 hx with rfl | hx
  ·exact⟨h.1.1,h.1.2⟩
  ·exact rowsFrom_mem h.2.2 x hx
theorem isS_parts{a b:Int}(h:isS a b=true):0≤a∧a < b∧b≤1099511627776:=by
 unfold isS at h
 simpa [Bool.and_eq_true,decide_eq_true_eq,and_assoc] using h
theorem okRows_parts{l:List S174}(h:okRows l=true):l.length≤64∧∀ x∈l,isS x.f0 x.f1=true∧okV x.f2=true:=by
 unfold okRows at h
 simp only[Bool.and_eq_true,decide_eq_true_eq]at h
 exact⟨h.1,rowsFrom_mem h.2⟩
theorem fine_val(d:Nat){v:S172}(h:okV v=true)(h0 : -9223372036854775808≤v.f1)(h1:v.f1≤9223372036854775807):Fine (d+1) 1 (valC v):=by
 obtain⟨hs,_⟩:=okV_size h
 unfold valC
 split
 ·exact fine_text d (by omega)
 ·exact fine_num d h0 h1
theorem fine_row(d:Nat){x:S174}(h:isS x.f0 x.f1=true∧okV x.f2=true)(hw : -9223372036854775808≤x.f2.f1∧x.f2.f1≤9223372036854775807):Fine (d+2) 4 (rowC x):=by
 obtain⟨a,b,c⟩:=isS_parts h.1
 refine(fine_list (n:=1) (d+1) (by simp) (fun y hy=>?_)).mono (by simp)
 simp only[List.mem_cons,List.not_mem_nil,or_false]at hy
 rcases hy with rfl | rfl | rfl
 ·exact fine_num d (by omega) (by omega)
 ·exact fine_num d (by omega) (by omega)
 ·exact fine_val d h.2 hw.1 hw.2
theorem fine_rows(d:Nat){l:List S174}(h:okRows l=true)(hw:∀ x∈l,-9223372036854775808≤x.f2.f1∧x.f2.f1≤9223372036854775807):Fine (d+3) 257 (rowsC l):=by
 obtain⟨hl,hx⟩:=okRows_parts h
 refine(fine_list (n:=4) (d+2) (by rw[List.length_map];omega) (fun y hy=>?_)).mono (by rw[List.length_map];omega)
 obtain⟨x,hm,rfl⟩:=List.mem_map.1 hy
 exact fine_row d (hx x hm) (hw x hm)
theorem kids_some:∀ {l:List S115} {q:S115},kidsFrom (some q) l=true→(∀ x∈l,x.f0≤255)→0≤q.f0→q.f0≤255→(l.length:Int)+q.f0≤255
 | [],q,_,_,h0,h1=>by simp only[List.length_nil];omega
 | y :: ys,q,h,hb,h0,h1=>by
  rw[kidsFrom]at h
  simp only[Bool.and_eq_true]at h
  have hq:q.f0 < y.f0:=of_decide_eq_true h.2.1
  have:=kids_some h.2.2 (fun x hx=>hb x (List.mem_cons_of_mem _ hx)) (by omega) (hb y List.mem_cons_self)
  rw[List.length_cons]
  omega
theorem kids_len{l:List S115}(h:kidsFrom none l=true)(hb:∀ x∈l,0≤x.f0∧x.f0≤255):l.length≤256:=by
 cases l with
 | nil=>simp
 | cons y ys=>
  rw[kidsFrom]at h
  simp only[Bool.and_eq_true]at h
  have h0:=hb y List.mem_cons_self
  have:=kids_some h.2.2 (fun x hx=>(hb x (List.mem_cons_of_mem _ hx)).2) h0.1 h0.2
  rw[List.length_cons]
  omega
theorem kids_mem:∀ {l:List S115} {p:Option S115},kidsFrom p l=true→∀ x∈l,x.f1.size=32
 | [],_,_,x,hx=>by cases hx
 | y :: ys,p,h,x,hx=>by
  rw[kidsFrom]at h
  simp only[Bool.and_eq_true,decide_eq_true_eq]at h
  rcases List.mem_cons.1 hx with rfl | hx
  ·exact h.1
  ·exact kids_mem h.2.2 x hx
structure NodeP(o:Ob):Prop where
 par:o.parents = []
 stamp:o.stamp=0
 note:o.note=⟨#[]⟩
 root:o.root=⟨#[]⟩
 label:o.label.size≤24
 rows:okRows o.rows=true
 kids:kidsFrom none o.kids=true
theorem okNode_parts{o:Ob}(h:okNode o=true):NodeP o:=by
 unfold okNode at h
 simp only[Bool.and_eq_true,decide_eq_true_eq]at h
 obtain⟨h1,h2,h3,h4,h5,h6,h7⟩:=h
 exact⟨List.eq_nil_of_length_eq_zero h1,h2,empty_str h3,empty_str h4,h5,h6,h7⟩
structure CommitP(o:Ob):Prop where
 rows:o.rows = []
 kids:o.kids = []
 label:o.label=⟨#[]⟩
 stamp:0≤o.stamp∧o.stamp≤1099511627776
 note:o.note.size≤40
 root:o.root.size=32
 len:o.parents.length≤2
 wide:∀ x∈o.parents,x.size=32
theorem okCommit_parts{o:Ob}(h:okCommit o=true):CommitP o:=by
 unfold okCommit at h
 simp only[Bool.and_eq_true,decide_eq_true_eq,Bool.not_eq_true']at h
 obtain⟨h1,h2,h3,h4,h5,h6,h7,h8,h9,_⟩:=h
 refine⟨List.eq_nil_of_length_eq_zero h1,List.eq_nil_of_length_eq_zero h2,empty_str h3,⟨h4,h5⟩,h6,h7,h8,fun x hx=>?_⟩
 rw[List.any_eq_false]at h9
 have:=h9 x hx
 unfold wideB at this
 simpa using this
def cellOf(o:Ob):S32:=if o.kind=1 then nodeC o else commitC o
theorem fine_node{o:Ob}(h:okNode o=true)(hw:wfOb o):Fine 16 5000 (nodeC o):=by
 have p:=okNode_parts h
 have hk:=kids_len p.kids hw.kids
 have h1:Fine 15 1 (numC 1):=fine_num 14 (by decide) (by decide)
 have h2:Fine 15 1 (textC o.label):=fine_text 14 (by have:=p.label;omega)
 have h3:Fine 15 257 (rowsC o.rows):=fine_rows 12 p.rows (fun x hx=>(hw.rows x hx).2.2)
 have h4:Fine 15 769 (listC (o.kids.map kidC)):=by
  refine(fine_list (n:=3) 14 (by rw[List.length_map];omega) (fun y hy=>?_)).mono (by rw[List.length_map];omega)
  obtain⟨x,hm,rfl⟩:=List.mem_map.1 hy
  have hx:=hw.kids x hm
  have hs:=kids_mem p.kids x hm
  refine(fine_list (n:=1) 13 (by simp) (fun z hz=>?_)).mono (by simp)
  simp only[List.mem_cons,List.not_mem_nil,or_false]at hz
  rcases hz with rfl | rfl
  ·exact fine_num 12 (by omega) (by omega)
  ·exact fine_text 12 (by omega)
 refine(fine_list (n:=769) 15 (by simp) (fun y hy=>?_)).mono (by simp)
 simp only[List.mem_cons,List.not_mem_nil,or_false]at hy
 rcases hy with rfl | rfl | rfl | rfl
 ·exact h1.mono (by omega)
 ·exact h2.mono (by omega)
 ·exact h3.mono (by omega)
 ·exact h4
theorem fine_commit{o:Ob}(h:okCommit o=true):Fine 16 5000 (commitC o):=by
 have p:=okCommit_parts h
 refine(fine_list (n:=3) 15 (by simp) (fun y hy=>?_)).mono (by simp)
 simp only[List.mem_cons,List.not_mem_nil,or_false]at hy
 rcases hy with rfl | rfl | rfl | rfl | rfl
 ·exact(fine_num 14 (by decide) (by decide)).mono (by omega)
 ·refine(fine_list (n:=1) 14 (by rw[List.length_map];have:=p.len;omega) (fun z hz=>?_)).mono (by rw[List.length_map];have:=p.len;omega)
  obtain⟨x,hm,rfl⟩:=List.mem_map.1 hz
  exact fine_text 13 (by have:=p.wide x hm;omega)
 ·exact(fine_num 14 (by have:=p.stamp;omega) (by have:=p.stamp;omega)).mono (by omega)
 ·exact(fine_text 14 (by have:=p.note;omega)).mono (by omega)
 ·exact(fine_text 14 (by have:=p.root;omega)).mono (by omega)
theorem fine_ob{o:Ob}(h:okOb o=true)(hw:wfOb o):Fine 16 5000 (cellOf o):=by
 unfold okOb at h
 unfold cellOf
 split at h
 ·rename_i h1;rw[if_pos h1];exact fine_node h hw
 ·rename_i h1
  rw[if_neg h1]
  split at h
  ·exact fine_commit h
  ·cases h
theorem Fine.enc{x:S32}(h:Fine 16 5000 x):(encS x).length≤600000:=by
 have:=enc_le x h.wf
 have:=h.pt
 omega
theorem Fine.check{x:S32}(h:Fine 16 5000 x):checkR x=0:=by
 unfold checkR
 rw[h.ok];rfl
end Go.Proofs.YtlmabbigfdbmbaaGreatDoor.PShelfNil
namespace Go.Proofs.YtlmabbigfdbmbaaGreatDoor.PShelfNil
open Go.RowKit Go.Proofs.YtlmabbigfdbmbaaGreatDoor.Ord Go.Proofs.YtlmabbigfdbmbaaGreatDoor.Obj Go.Proofs.YtlmabbigfdbmbaaGreatDoorW.PrintWords Go.Proofs.YtlmabbigfdbmbaaGreatDoorW.PrintLast Go.Proofs.YtlmabbigfdbmbaaGreatDoorW.PrintMore
attribute [local irreducible] OpGives
def byL(l:List UInt8):ByteArray:=⟨l.toArray⟩
def bytesOf(o:Ob):ByteArray:=byL (encS (cellOf o))
def putS(o:Ob):ByteArray:=if okOb o then bytesOf o else ⟨#[]⟩
def idS(o:Ob):ByteArray:=if okOb o then byL (Sha.sum (encS (cellOf o)))else ⟨#[]⟩
def errO(b:Bool):Int:=if b then 0 else 2
set_option maxHeartbeats 8000000 in
set_option maxRecDepth 100000 in
theorem ocheck_calls(o:Ob)(Ar:Option Addr)(cr:Nat)(Ak:Option Addr)(ck:Nat)(Ap:Option Addr)(cp:Nat)(w:World)(hO:ObAt w o Ar cr Ak ck Ap cp)(hT:Lib.Utf8Tabs 1 2 w) :
  Calls Tryz.prog 87 #[.agg (obV o Ar cr Ak ck Ap cp)] w fun e w'=>e = .returned (.int .i64 (errO (okOb o)))∧Below w.heap.size w w':=by
 obtain⟨W1,hW1⟩:∃ W1,W1=w.alloc (.cells (obV o Ar cr Ak ck Ap cp) 27):=⟨_,rfl⟩
 have hn1:Below w.heap.size w W1:=by rw[hW1];exact(Below.refl _ _).alloc (Nat.le_refl _) _
 have hg1:W1.heap[w.heap.size]? = some (.cells (obV o Ar cr Ak ck Ap cp) 27 (0,0)):=by rw[hW1];exact alloc_lastV _ _
 unfold obV at hg1
 obtain⟨⟨b0,b1,b2,b3⟩,b4,b5,b6,b7⟩:=box8 hg1
 have HF:=Lib.hid (formed_calls o Ar cr Ak ck Ap cp W1 (hO.below hn1) (Utf8Tabs_below hT hn1))
 have HN1:=Lib.hid hn1
 unfold formV at HF
 unfold obV at hW1 HF ⊢
 rw[hW1]at b0 b1 b2 b3 b4 b5 b6 b7
 have HW1:=Lib.hid hW1
 generalize okOb o=ok at HF ⊢
 clear hW1 hn1 hg1 hO hT
 cases ok with
 | false=>
  go_enter Tryz.func87,Tryz.ntmps87
  go_wp2_with fail
  rw[← HW1.out]
  refine HF.out.mono ?_
  rintro e W2 ⟨rfl,hb2⟩
  have hfin:=HN1.out.trans (hb2.mono HN1.out.size)
  go_wp2_with fail
  go_ret
  exact⟨rfl,hfin⟩
 | true=>
  by_cases hk:o.kind=1
  ·rw[if_pos hk]at HF
   have HK:=Lib.hid hk
   clear hk
   go_enter Tryz.func87,Tryz.ntmps87
   go_wp2_with fail
   rw[← HW1.out]
   refine HF.out.mono ?_
   rintro e W2 ⟨rfl,hb2⟩
   have hfin:=HN1.out.trans (hb2.mono HN1.out.size)
   go_wp2_with fail
   go_ret
   exact⟨rfl,hfin⟩
  ·rw[if_neg hk]at HF
   have HK:=Lib.hid hk
   clear hk
   go_enter Tryz.func87,Tryz.ntmps87
   go_wp2_with fail
   rw[← HW1.out]
   refine HF.out.mono ?_
   rintro e W2 ⟨rfl,hb2⟩
   have hfin:=HN1.out.trans (hb2.mono HN1.out.size)
   go_wp2_with fail
   go_ret
   exact⟨rfl,hfin⟩
set_option maxHeartbeats 8000000 in
set_option maxRecDepth 100000 in
theorem oput_calls(o:Ob)(Ar:Option Addr)(cr:Nat)(Ak:Option Addr)(ck:Nat)(Ap:Option Addr)(cp:Nat)(w:World)(hO:ObAt w o Ar cr Ak ck Ap cp)(hw:wfOb o)(hT:Lib.Utf8Tabs 1 2 w) :
  Calls Tryz.prog 53 #[.agg (obV o Ar cr Ak ck Ap cp)] w fun e w'=>e = .returned (.tuple #[.string (putS o),.int .i64 (errO (okOb o))])∧Below w.heap.size w w':=by
 obtain⟨W1,hW1⟩:∃ W1,W1=w.alloc (.cells (obV o Ar cr Ak ck Ap cp) 27):=⟨_,rfl⟩
 have hn1:Below w.heap.size w W1:=by rw[hW1];exact(Below.refl _ _).alloc (Nat.le_refl _) _
 have hg1:W1.heap[w.heap.size]? = some (.cells (obV o Ar cr Ak ck Ap cp) 27 (0,0)):=by rw[hW1];exact alloc_lastV _ _
 unfold obV at hg1
 obtain⟨⟨b0,b1,b2,b3⟩,b4,b5,b6,b7⟩:=box8 hg1
 have HF:=Lib.hid (formed_calls o Ar cr Ak ck Ap cp W1 (hO.below hn1) (Utf8Tabs_below hT hn1))
 have HN1:=Lib.hid hn1
 have HO:=Lib.hid (hO.below hn1)
 unfold putS
 unfold formV at HF
 have hnode:okOb o=true→o.kind=1→∀ W,Below W1.heap.size W1 W→Calls Tryz.prog 255 #[.agg (obV o Ar cr Ak ck Ap cp)] W (CellPostR W.heap.size (cellOf o) W):=fun h hk W hb=>by
  have hn:okNode o=true:=by unfold okOb at h;rwa [if_pos hk]at h
  have p:=okNode_parts hn
  unfold cellOf;rw[if_pos hk]
  exact ncell_calls o Ar cr Ak ck Ap cp W (HO.out.below hb) (by have:=(okRows_parts p.rows).1;omega) (by have:=kids_len p.kids hw.kids;omega) hw.kids
 have hcom:okOb o=true→¬ o.kind=1→∀ W,Below W1.heap.size W1 W→Calls Tryz.prog 258 #[.agg (obV o Ar cr Ak ck Ap cp)] W (CellPostR W.heap.size (cellOf o) W):=fun h hk W hb=>by
  have hn:okCommit o=true:=by
   unfold okOb at h;rw[if_neg hk]at h
   split at h
   ·exact h
   ·cases h
  have p:=okCommit_parts hn
  unfold cellOf;rw[if_neg hk]
  exact ccell_calls o Ar cr Ak ck Ap cp W (HO.out.below hb) (by have:=p.len;omega)
 have hfine:okOb o=true→Fine 16 5000 (cellOf o):=fun h=>fine_ob h hw
 have HNODE:=Lib.hid hnode
 have HCOM:=Lib.hid hcom
 have HFINE:=Lib.hid hfine
 unfold bytesOf
 unfold obV at hW1 HF HNODE HCOM ⊢
 rw[hW1]at b0 b1 b2 b3 b4 b5 b6 b7
 have HW1:=Lib.hid hW1
 have hput:okOb o=true→∀ u W,cellF W1.heap.size (cellOf o) u W→Calls Tryz.prog 80 #[u] W fun e w'=>e = .returned (.tuple #[.string (byL (encS (cellOf o))),.int .i64 0])∧Below W.heap.size W w':=fun h u W hu=>by
  obtain⟨v3,rfl,hr⟩:=hu
  obtain⟨A,c,rfl,hlc,hC⟩:=Kd.R_reads hr
  have hk:=(HFINE.out h).check
  have hen:=(HFINE.out h).enc
  exact Put_calls (cellOf o) A c 0 W hC hlc (HFINE.out h).wf hk (fun _=>by omega)
 have HPUT:=Lib.hid hput
 generalize okOb o=ok at *
 clear hW1 hn1 hg1 hO hT hnode hcom hfine hput
 cases ok with
 | false=>
  clear HNODE HCOM HFINE HPUT
  go_enter Tryz.func53,Tryz.ntmps53
  go_wp2_with fail
  rw[← HW1.out]
  refine HF.out.mono ?_
  rintro e W2 ⟨rfl,hb2⟩
  have hfin:=HN1.out.trans (hb2.mono HN1.out.size)
  go_wp2_with fail
  go_ret2
  exact⟨rfl,hfin⟩
 | true=>
  by_cases hk:o.kind=1
  ·rw[if_pos hk]at HF
   have HK:=Lib.hid hk
   clear hk
   go_enter Tryz.func53,Tryz.ntmps53
   go_wp2_with fail
   rw[← HW1.out]
   refine HF.out.mono ?_
   rintro e W2 ⟨rfl,hb2⟩
   have HB2:=Lib.hid hb2
   have HFIN:=Lib.hid (HN1.out.trans (hb2.mono HN1.out.size))
   clear hb2
   go_wp2_with fail
   refine(HNODE.out (by first | rfl | trivial) HK.out W2 HB2.out).mono ?_
   rintro e W3 ⟨u,rfl,hu,hb3⟩
   have HP:=Lib.hid (HPUT.out (by first | rfl | trivial) u W3 (cellF_lower hu HB2.out.size))
   have HFIN3:=Lib.hid (HFIN.out.trans (hb3.mono HFIN.out.size))
   clear hb3 hu
   go_wp2_with fail
   refine HP.out.mono ?_
   rintro e W4 ⟨rfl,hb4⟩
   have hfin:=HFIN3.out.trans (hb4.mono HFIN3.out.size)
   go_wp2_with fail
   go_ret2
   exact⟨rfl,hfin⟩
  ·rw[if_neg hk]at HF
   have HK:=Lib.hid hk
   clear hk
   go_enter Tryz.func53,Tryz.ntmps53
   go_wp2_with fail
   rw[← HW1.out]
   refine HF.out.mono ?_
   rintro e W2 ⟨rfl,hb2⟩
   have HB2:=Lib.hid hb2
   have HFIN:=Lib.hid (HN1.out.trans (hb2.mono HN1.out.size))
   clear hb2
   go_wp2_with fail
   refine(HCOM.out (by first | rfl | trivial) HK.out W2 HB2.out).mono ?_
   rintro e W3 ⟨u,rfl,hu,hb3⟩
   have HP:=Lib.hid (HPUT.out (by first | rfl | trivial) u W3 (cellF_lower hu HB2.out.size))
   have HFIN3:=Lib.hid (HFIN.out.trans (hb3.mono HFIN.out.size))
   clear hb3 hu
   go_wp2_with fail
   refine HP.out.mono ?_
   rintro e W4 ⟨rfl,hb4⟩
   have hfin:=HFIN3.out.trans (hb4.mono HFIN3.out.size)
   go_wp2_with fail
   go_ret2
   exact⟨rfl,hfin⟩
end Go.Proofs.YtlmabbigfdbmbaaGreatDoor.PShelfNil
namespace Go.Proofs.YtlmabbigfdbmbaaGreatDoor.PShelfNil
open Go.RowKit Go.Proofs.YtlmabbigfdbmbaaGreatDoor.Ord Go.Proofs.YtlmabbigfdbmbaaGreatDoor.Obj Go.Proofs.YtlmabbigfdbmbaaGreatDoorW.PrintWords Go.Proofs.YtlmabbigfdbmbaaGreatDoorW.PrintLast Go.Proofs.YtlmabbigfdbmbaaGreatDoorW.PrintMore
attribute [local irreducible] OpGives
theorem any_str{w:World}{x:S32}{u:Value}(h:AnyAt w x u):∃ s,(∀ W,(Instr.typeAssert u 161 9 true).run Tryz.prog W = .ok (.tuple #[.string s,.bool (decide (x.f0=2))]) W)∧(x.f0=2→s=x.f2):=by
 rcases any_cases h with ⟨h1,rfl⟩ | ⟨h1,rfl⟩ | ⟨h1,h2,A,c,rfl,_,_⟩
 ·exact⟨⟨#[]⟩,fun W=>by rw[ta_is,decide_eq_false (by omega)],fun e=>by omega⟩
 ·exact⟨x.f2,fun W=>by rw[ta_ss,decide_eq_true h1],fun e=>rfl⟩
 ·exact⟨⟨#[]⟩,fun W=>by rw[ta_ls,decide_eq_false h2],fun e=>absurd e h2⟩
theorem any_int{w:World}{x:S32}{u:Value}(h:AnyAt w x u):∃ n,(∀ W,(Instr.typeAssert u 161 3 true).run Tryz.prog W = .ok (.tuple #[.int .i64 n,.bool (decide (x.f0=1))]) W)∧(x.f0=1→n=x.f1):=by
 rcases any_cases h with ⟨h1,rfl⟩ | ⟨h1,rfl⟩ | ⟨h1,h2,A,c,rfl,_,_⟩
 ·exact⟨x.f1,fun W=>by rw[ta_ii,decide_eq_true h1],fun e=>rfl⟩
 ·exact⟨0,fun W=>by rw[ta_si,decide_eq_false (by omega)],fun e=>by omega⟩
 ·exact⟨0,fun W=>by rw[ta_li,decide_eq_false h1],fun e=>absurd e h1⟩
theorem any_list{w:World}{x:S32}{u:Value}(h:AnyAt w x u):∃ A n c,(∀ W,(Instr.typeAssert u 161 217 true).run Tryz.prog W = .ok (.tuple #[.slice A n c,.bool (isL x)]) W)∧(isL x=true→n=x.f3.length∧n≤c∧kA.C w A n x.f3):=by
 rcases any_cases h with ⟨h1,rfl⟩ | ⟨h1,rfl⟩ | ⟨h1,h2,A,c,rfl,hl,hC⟩
 ·have:isL x=false:=by unfold isL;rw[decide_eq_true h1];rfl
  exact⟨none,0,0,fun W=>by rw[ta_il,this],fun e=>by rw[this]at e;cases e⟩
 ·have:isL x=false:=by unfold isL;rw[decide_eq_true h1];simp
  exact⟨none,0,0,fun W=>by rw[ta_sl,this],fun e=>by rw[this]at e;cases e⟩
 ·exact⟨A,x.f3.length,c,fun W=>by rw[ta_ll,isL_of h1 h2],fun _=>⟨rfl,hl,hC⟩⟩
def kidsD:List S32→Option (List S115)
 | []=>some []
 | x :: xs=>match kidD x with | none=>none | some r=>(kidsD xs).map (r :: ·)
theorem kidsD_step{l:List S32}{i:Nat}{x:S32}(h:l[i]? = some x):kidsD (l.drop i)=match kidD x with | none=>none | some r=>(kidsD (l.drop (i+1))).map (r :: ·):=by
 obtain⟨hi,hx⟩:=List.getElem?_eq_some_iff.1 h
 rw[List.drop_eq_getElem_cons hi,kidsD,hx]
abbrev rK(W:World)(base:Nat)(v:Value)(l:List S115):Prop:=Kd.R k115 115 W base (fun _=>True) v l
theorem infoKid:(Tryz.prog.info? 115).map (fun i=>(i.zero,i.size,i.bytes))=some (some (.agg #[.int .u8 0,.string (⟨#[]⟩:ByteArray)]),2,24):=by kernel_rfl
theorem append_kid{W:World}{b0:Nat}{v:Value}{acc:List S115}{x:S115}{g:Nat}(hR:rK W b0 v acc)(hb0:b0≤W.heap.size)
  (hg:W.heap[g]? = some (.cells #[.int .u8 x.f0,.string x.f1] 115 (0,0))) (hn:acc.length≤1000000) (ty:TypeId) :
  ∃ v' W',(Builtin.append_ #[24,24] ty #[v,.slice (some ⟨g,0,none⟩) 1 1]).run Tryz.prog W = .ok v' W'∧W.grownBy W' v.ownBlock∧rK W' b0 v' (acc ++ [x]):=by
 obtain⟨i0,hi0,hz0,hz1,hz2⟩:=info_parts infoKid
 have hgs:=(Array.getElem?_eq_some_iff.1 hg).1
 obtain⟨h0,inner,hown,hreps⟩:=hR
 have hbn:(acc.length+1) * 24≤1000001 * 24:=Nat.mul_le_mul (by omega) (Nat.le_refl _)
 obtain⟨h,cap,W',hr,hown',hgr,hat,_⟩:=run_append_lies (P:=Tryz.prog) W 24 ty b0 115 i0 _ 2 24 Tryz.underlying24 hi0 hz0 hz1 hz2 (by rfl) (by decide) v acc.length _ hown ⟨g,0,none⟩ 1 1 [.int .u8 x.f0,.string x.f1]
  (by rfl) (World.news_of_block (cs:=#[.int .u8 x.f0,.string x.f1]) hg) (by
   intro u hu
   simp only[List.mem_cons,List.not_mem_nil,or_false]at hu
   rcases hu with rfl | rfl<;>rfl) (by decide) (by unfold maxLen;omega) (by omega) hb0 W.heap.size rfl
 have hm3:Kd.M k115 W b0 (fun _=>False) x [.int .u8 x.f0,.string x.f1]:=k115_mkM W b0 _ x
 have hres:=Kd.R_appended (d:=k115) (e:=115) (base:=b0) (ok:=fun _=>True) (W:=W) (w1:=W') (v:=v) (v1:=.slice (some ⟨h,0,none⟩) (acc.length+1) cap) h0 hreps hm3 (fun k hk=>hk.elim) (fun k hk=>trivial) hown' hgr
  (hat.elim (fun e=> .inl (by rw[e];rfl)) (fun e=> .inr ⟨h,rfl,by omega⟩))
 exact⟨_,W',hr,hgr,hres⟩
def zOb:Ob:=⟨0,⟨#[]⟩,[],[],[],0,⟨#[]⟩,⟨#[]⟩⟩
def nodeD(a b c:S32):Option Ob:=
 if a.f0=2∧(takenR b).2=true∧isL c=true then (kidsD c.f3).map (fun ks=>⟨1,a.f2,(takenR b).1,ks,[],0,⟨#[]⟩,⟨#[]⟩⟩)else none
abbrev rS(W:World)(base:Nat)(v:Value)(l:List ByteArray):Prop:=Kd.R Kd.string 9 W base (fun _=>True) v l
structure ObR(w:World)(base:Nat)(o:Ob)(Ar:Option Addr)(cr:Nat)(Ak:Option Addr)(ck:Nat)(Ap:Option Addr)(cp:Nat):Prop where
 r:rR w base (.slice Ar o.rows.length cr) o.rows
 k:rK w base (.slice Ak o.kids.length ck) o.kids
 p:rS w base (.slice Ap o.parents.length cp) o.parents
theorem ObR.at_{w:World}{base:Nat}{o:Ob}{Ar:Option Addr}{cr:Nat}{Ak:Option Addr}{ck:Nat}{Ap:Option Addr}{cp:Nat}(h:ObR w base o Ar cr Ak ck Ap cp):ObAt w o Ar cr Ak ck Ap cp:=by
 obtain⟨_,h1,h2⟩:=Kd.R_reads' h.r
 obtain⟨_,h3,h4⟩:=Kd.R_reads' h.k
 obtain⟨_,h5,h6⟩:=Kd.R_reads' h.p
 exact⟨h2,h1,h4,h3,h6,h5⟩
theorem ObR.move{w W:World}{base base':Nat}{o:Ob}{Ar:Option Addr}{cr:Nat}{Ak:Option Addr}{ck:Nat}{Ap:Option Addr}{cp:Nat}(h:ObR w base o Ar cr Ak ck Ap cp)(hm:∀ k,base≤k→k < w.heap.size→W.heap[k]? = w.heap[k]?)(hb:base'≤base):ObR W base' o Ar cr Ak ck Ap cp:=
 ⟨Kd.R_mono (Kd.R_lower (Kd.R_step (Kd.R_bound h.r) (fun k hk hl=>hm k hk.2.1 hl)) hb) (fun _ _=>trivial),Kd.R_mono (Kd.R_lower (Kd.R_step (Kd.R_bound h.k) (fun k hk hl=>hm k hk.2.1 hl)) hb) (fun _ _=>trivial),Kd.R_mono (Kd.R_lower (Kd.R_step (Kd.R_bound h.p) (fun k hk hl=>hm k hk.2.1 hl)) hb) (fun _ _=>trivial)⟩
def ObPost(r:Option Ob)(w:World)(e:Ending)(w':World):Prop:=
 ∃ Ar cr Ak ck Ap cp,e = .returned (.tuple #[.agg (obV (r.getD zOb) Ar cr Ak ck Ap cp),.bool r.isSome])∧ObR w' w.heap.size (r.getD zOb) Ar cr Ak ck Ap cp∧Below w.heap.size w w'
def obZ:Array Value:=#[.int .i64 0,.string (⟨#[]⟩:ByteArray),.slice none 0 0,.slice none 0 0,.slice none 0 0,.int .i64 0,.string (⟨#[]⟩:ByteArray),.string (⟨#[]⟩:ByteArray)]
theorem ObR_zero(w:World)(base:Nat):ObR w base zOb none 0 none 0 none 0:=⟨Kd.R_nil _ _ _ _ _,Kd.R_nil _ _ _ _ _,Kd.R_nil _ _ _ _ _⟩
def put8(W:World)(g:Nat)(a0 a1 a2 a3 a4 a5 a6 a7:Value):World:=(((((((W.setCell ⟨g,0,none⟩ a0).setCell ⟨g,1,none⟩ a1).setCell ⟨g,2,none⟩ a2).setCell ⟨g,3,none⟩ a3).setCell ⟨g,4,none⟩ a4).setCell ⟨g,5,none⟩ a5).setCell ⟨g,6,none⟩ a6).setCell ⟨g,7,none⟩ a7
theorem put8_same{W:World}{g:Nat}{t:TypeId}{c0 c1 c2 c3 c4 c5 c6 c7:Value}(h:W.heap[g]? = some (.cells #[c0,c1,c2,c3,c4,c5,c6,c7] t (0,0)))(a0 a1 a2 a3 a4 a5 a6 a7:Value) :
  (put8 W g a0 a1 a2 a3 a4 a5 a6 a7).heap[g]? = some (.cells #[a0,a1,a2,a3,a4,a5,a6,a7] t (0,0)):=by
 unfold put8
 have h0:=blk_put (cs':=#[a0,c1,c2,c3,c4,c5,c6,c7]) h 0 a0 rfl
 generalize W.setCell ⟨g,0,none⟩ a0=W0 at h0 ⊢
 have h1:=blk_put (cs':=#[a0,a1,c2,c3,c4,c5,c6,c7]) h0 1 a1 rfl
 generalize W0.setCell ⟨g,1,none⟩ a1=W1 at h1 ⊢
 have h2:=blk_put (cs':=#[a0,a1,a2,c3,c4,c5,c6,c7]) h1 2 a2 rfl
 generalize W1.setCell ⟨g,2,none⟩ a2=W2 at h2 ⊢
 have h3:=blk_put (cs':=#[a0,a1,a2,a3,c4,c5,c6,c7]) h2 3 a3 rfl
 generalize W2.setCell ⟨g,3,none⟩ a3=W3 at h3 ⊢
 have h4:=blk_put (cs':=#[a0,a1,a2,a3,a4,c5,c6,c7]) h3 4 a4 rfl
 generalize W3.setCell ⟨g,4,none⟩ a4=W4 at h4 ⊢
 have h5:=blk_put (cs':=#[a0,a1,a2,a3,a4,a5,c6,c7]) h4 5 a5 rfl
 generalize W4.setCell ⟨g,5,none⟩ a5=W5 at h5 ⊢
 have h6:=blk_put (cs':=#[a0,a1,a2,a3,a4,a5,a6,c7]) h5 6 a6 rfl
 generalize W5.setCell ⟨g,6,none⟩ a6=W6 at h6 ⊢
 exact blk_put (cs':=#[a0,a1,a2,a3,a4,a5,a6,a7]) h6 7 a7 rfl
theorem sc_os(W:World)(p:Addr)(v:Value):(W.setCell p v).os=W.os:=rfl
theorem sc_tape(W:World)(p:Addr)(v:Value):(W.setCell p v).tape=W.tape:=rfl
theorem sc_output(W:World)(p:Addr)(v:Value):(W.setCell p v).output=W.output:=rfl
theorem sc_size(W:World)(p:Addr)(v:Value):(W.setCell p v).heap.size=W.heap.size:=by simp[World.setCell]
theorem put8_far{W:World}{g k:Nat}(h:k≠g)(a0 a1 a2 a3 a4 a5 a6 a7:Value):(put8 W g a0 a1 a2 a3 a4 a5 a6 a7).heap[k]? = W.heap[k]? :=by
 unfold put8
 rw[set_far _ _ _ _ _ h,set_far _ _ _ _ _ h,set_far _ _ _ _ _ h,set_far _ _ _ _ _ h,set_far _ _ _ _ _ h,set_far _ _ _ _ _ h,set_far _ _ _ _ _ h,set_far _ _ _ _ _ h]
theorem put8_size(W:World)(g:Nat)(a0 a1 a2 a3 a4 a5 a6 a7:Value):(put8 W g a0 a1 a2 a3 a4 a5 a6 a7).heap.size=W.heap.size:=by unfold put8;simp only[sc_size]
theorem put8_below{w W:World}{g B:Nat}(h:Below B w W)(hg:B≤g)(a0 a1 a2 a3 a4 a5 a6 a7:Value):Below B w (put8 W g a0 a1 a2 a3 a4 a5 a6 a7):=
 ⟨by unfold put8;simp only[sc_os];exact h.os,by unfold put8;simp only[sc_tape];exact h.tape,by unfold put8;simp only[sc_output];exact h.output,by rw[put8_size];exact h.size,fun k hk=>(put8_far (by omega) _ _ _ _ _ _ _ _).trans (h.block k hk)⟩
theorem frozen8{W:World}{g:Nat}{t:TypeId}{cs:Array Value}(h:W.heap[g]? = some (.cells cs t (0,0))):(W.frozen? ⟨g,0,none⟩=false∧W.frozen? ⟨g,1,none⟩=false∧W.frozen? ⟨g,2,none⟩=false∧W.frozen? ⟨g,3,none⟩=false)∧W.frozen? ⟨g,4,none⟩=false∧W.frozen? ⟨g,5,none⟩=false∧W.frozen? ⟨g,6,none⟩=false∧W.frozen? ⟨g,7,none⟩=false:=
 ⟨⟨Lib.frozen_of_heap h 0,Lib.frozen_of_heap h 1,Lib.frozen_of_heap h 2,Lib.frozen_of_heap h 3⟩,Lib.frozen_of_heap h 4,Lib.frozen_of_heap h 5,Lib.frozen_of_heap h 6,Lib.frozen_of_heap h 7⟩
theorem results_ob{fn:Func}(hfn:fn.results=#[.cell 2 27,.tmp 3])(tmps:Array Value)(w:World)(c:Nat)(a0 a1 a2 a3 a4 a5 a6 a7 b:Value)(h2:tmps.getD 2 undef = .pointer (some ⟨c,0,none⟩))(h3:tmps.getD 3 undef=b)
  (hc:w.heap[c]? = some (.cells #[a0,a1,a2,a3,a4,a5,a6,a7] 27 (0,0))) :
  (results fn tmps).run Tryz.prog w = .ok (.tuple #[.agg #[a0,a1,a2,a3,a4,a5,a6,a7],b]) w:=by
 have h2':tmps[2]?.getD undef = .pointer (some ⟨c,0,none⟩):=by simpa using h2
 have h3':tmps[3]?.getD undef=b:=by simpa using h3
 obtain⟨⟨k0,k1,k2,k3⟩,k4,k5,k6,k7⟩:=box8 hc
 simp[results,hfn,h2',h3',asAddr,k0,k1,k2,k3,k4,k5,k6,k7,go_sem]
theorem ob_results:(Tryz.f121).results=#[.cell 2 27,.tmp 3]:=Tryz.results121
end Go.Proofs.YtlmabbigfdbmbaaGreatDoor.PShelfNil
namespace Go.Proofs.YtlmabbigfdbmbaaGreatDoor.PShelfNil
open Go.RowKit Go.Proofs.YtlmabbigfdbmbaaGreatDoor.Ord Go.Proofs.YtlmabbigfdbmbaaGreatDoor.Obj Go.Proofs.YtlmabbigfdbmbaaGreatDoorW.PrintWords Go.Proofs.YtlmabbigfdbmbaaGreatDoorW.PrintLast Go.Proofs.YtlmabbigfdbmbaaGreatDoorW.PrintMore
attribute [local irreducible] OpGives
structure NodeIn(w2:World)(g:Nat)(lab:ByteArray)(rv:Value)(v:Value)(acc:List S115)(W:World):Prop where
 below:Below w2.heap.size w2 W
 ge:w2.heap.size≤g
 blk:W.heap[g]? = some (.cells #[.int .i64 1,.string lab,rv,v,.slice none 0 0,.int .i64 0,.string (⟨#[]⟩:ByteArray),.string (⟨#[]⟩:ByteArray)] 27 (0,0))
 row:rK W (g+1) v acc
theorem NodeIn.later{w2 W W':World}{g:Nat}{lab:ByteArray}{rv v:Value}{acc:List S115}(h:NodeIn w2 g lab rv v acc W)(hb:Below W.heap.size W W'):NodeIn w2 g lab rv v acc W':=
 ⟨h.below.trans (hb.mono h.below.size),h.ge,(hb.block g (Array.getElem?_eq_some_iff.1 h.blk).1).trans h.blk,Kd.R_below h.row hb⟩
theorem NodeIn.step{w2 W W':World}{g:Nat}{lab:ByteArray}{rv v v':Value}{acc acc':List S115}(h:NodeIn w2 g lab rv v acc W)(hg:W.grownBy W' v.ownBlock)(hr:rK W' (g+1) v' acc') :
  NodeIn w2 g lab rv v' acc' (W'.setCell ⟨g,3,none⟩ v'):=by
 obtain⟨_,inner,hown,_⟩:=h.row
 have hgl:=(Array.getElem?_eq_some_iff.1 h.blk).1
 have hne:∀ k,k < g+1→some k≠v.ownBlock:=fun k hk e=>by have:=own_base hown k e.symm;omega
 have hblk:=(hg.block g hgl (hne g (by omega))).trans h.blk
 have hs:=h.below.size
 have hb:Below w2.heap.size w2 W':=⟨hg.os.trans h.below.os,hg.tape.trans h.below.tape,hg.output.trans h.below.output,Nat.le_trans hs hg.size,fun k hk=>(hg.block k (by omega) (hne k (by have:=h.ge;omega))).trans (h.below.block k hk)⟩
 refine⟨⟨hb.os,hb.tape,hb.output,by rw[sc_size];exact hb.size,fun k hk=>(set_far _ _ _ _ _ (by have:=h.ge;omega)).trans (hb.block k hk)⟩,h.ge,blk_put (cs':=#[.int .i64 1,.string lab,rv,v',.slice none 0 0,.int .i64 0,.string (⟨#[]⟩:ByteArray),.string (⟨#[]⟩:ByteArray)]) hblk 3 v' rfl,?_⟩
 exact Kd.R_mono (Kd.R_step (Kd.R_bound hr) (fun k hk _=>set_far _ _ _ _ _ (by have:=hk.2.1;omega))) (fun _ _=>trivial)
set_option maxHeartbeats 16000000 in
set_option maxRecDepth 100000 in
theorem nodeOf_calls(a b d:S32)(A:Option Addr)(c:Nat)(w:World)(hA:kA.C w A 3 [a,b,d])(hbl:b.f3.length≤1000000)(hdl:d.f3.length≤1000000)(hT:Lib.Utf8Tabs 1 2 w) :
  Calls Tryz.prog 121 #[.slice A 3 c] w (ObPost (nodeD a b d) w):=by
 obtain⟨ad,u0,rfl,c0,k0,hb0⟩:=any_at (l:=[a,b,d]) hA (i:=0) (x:=a) rfl
 obtain⟨ad1,u1,e1,c1,k1,hb1⟩:=any_at (l:=[a,b,d]) hA (i:=1) (x:=b) rfl
 obtain⟨ad2,u2,e2,c2,k2,hb2⟩:=any_at (l:=[a,b,d]) hA (i:=2) (x:=d) rfl
 cases e1;cases e2
 rw[show ad.add 0=ad from by simp[Addr.add]]at c0 hb0
 have c1:=three_at 1 (by decide) c1
 have c2:=three_at 2 (by decide) c2
 obtain⟨s0,ta0,hs0⟩:=any_str k0
 obtain⟨A2,n2,p2,ta2,hl2⟩:=any_list k2
 obtain⟨W1,hW1⟩:∃ W1,W1=w.alloc (.cells obZ 27):=⟨_,rfl⟩
 have hn1:Below w.heap.size w W1:=by rw[hW1];exact(Below.refl _ _).alloc (Nat.le_refl _) _
 have hg1:W1.heap[w.heap.size]? = some (.cells obZ 27 (0,0)):=by rw[hW1];exact alloc_lastV _ _
 have hs1:W1.heap.size=w.heap.size+1:=by rw[hW1];simp
 have HT:=Lib.hid (taken_calls b u1 W1 (k1.below hn1) hbl (Utf8Tabs_below hT hn1))
 have hcs:∀ W,Below W1.heap.size W1 W→W.cell? ad=some u0∧W.cell? ⟨ad.block,ad.off+1,none⟩=some u1∧W.cell? ⟨ad.block,ad.off+2,none⟩=some u2:=fun W hW=>by
  have h2:=hn1.trans (hW.mono hn1.size)
  exact⟨pw_cell_below h2 c0,pw_cell_below h2 c1,pw_cell_below h2 c2⟩
 have HCS:=Lib.hid hcs
 have HN1:=Lib.hid hn1
 have HG1:=Lib.hid hg1
 have HS1:=Lib.hid hs1
 have HL2:=Lib.hid hl2
 have HS0:=Lib.hid hs0
 unfold obZ at hW1
 have HW1:=Lib.hid hW1
 obtain⟨RP,hRP⟩:∃ RP:Ending→World→Prop,RP=ObPost (nodeD a b d) w:=⟨_,rfl⟩
 rw[← hRP]
 unfold nodeD at hRP
 have HRP:=Lib.hid hRP
 clear hA hs0 hl2 hcs hn1 hg1 hs1 hW1 hRP k0 k1 k2 hb1 hb2 hT
 generalize hb1e:decide (a.f0=2)=B1 at ta0
 generalize hb3e:isL d=B3 at ta2 HL2
 have HB1:=Lib.hid hb1e
 have HB3:=Lib.hid hb3e
 clear hb1e hb3e
 go_enter Tryz.func121,Tryz.ntmps121
 go_wp2_with fail
 rw[← HW1.out]
 refine HT.out.mono ?_
 rintro e W2 ⟨Ar,cr,rfl,hCr,hb2⟩
 generalize htk:(takenR b).1=rws at hCr
 generalize htb:(takenR b).2=B2
 obtain⟨d0,d1,d2⟩:=HCS.out W2 hb2
 have hg2:=(hb2.block _ (Array.getElem?_eq_some_iff.1 HG1.out).1).trans HG1.out
 have hbw:Below w.heap.size w W2:=HN1.out.trans (hb2.mono HN1.out.size)
 unfold obZ at hg2
 have hs12:w.heap.size < W2.heap.size:=(Array.getElem?_eq_some_iff.1 hg2).1
 have HG2:=Lib.hid hg2
 have HBW:=Lib.hid hbw
 have HS12:=Lib.hid hs12
 have HCR:=Lib.hid hCr
 have HTK:=Lib.hid (And.intro htk htb)
 have hnone:((B1 && B2) && B3)=false→∀ W,Below w.heap.size w W→W.heap[w.heap.size]? = some (.cells obZ 27 (0,0))→∀ tmps:Array Value,tmps.getD 2 undef = .pointer (some ⟨w.heap.size,0,none⟩)→tmps.getD 3 undef = .bool false→
   bodyPost Tryz.prog Tryz.f121 RP Exit.ret { tmps:=tmps,defers:=[] } W:=fun h W hW hg tmps t2 t3=>by
  refine bodyPost_ret (results_ob ob_results _ _ w.heap.size _ _ _ _ _ _ _ _ _ t2 t3 hg) rfl ?_
  rw[HRP.out,if_neg (by
   rintro⟨x1,x2,x3⟩
   rw[← HB1.out,← HB3.out,← HTK.out.2,decide_eq_true x1,x2,x3]at h
   cases h)]
  exact⟨none,0,none,0,none,0,rfl,ObR_zero _ _,hW⟩
 have HNONE:=Lib.hid hnone
 clear htk htb hCr hb2 hg2 hbw c0 c1 c2 hnone hs12
 cases B1 with
 | false=>
  obtain⟨⟨z0,z1,z2,z3⟩,z4,z5,z6,z7⟩:=box8 HG2.out
  obtain⟨⟨f0,f1,f2,f3⟩,f4,f5,f6,f7⟩:=frozen8 HG2.out
  go_wp2_with fail
  refine HNONE.out (by first | rfl | simp) (put8 W2 w.heap.size (.int .i64 0) (.string (⟨#[]⟩:ByteArray)) (.slice none 0 0) (.slice none 0 0) (.slice none 0 0) (.int .i64 0) (.string (⟨#[]⟩:ByteArray)) (.string (⟨#[]⟩:ByteArray))) (put8_below HBW.out (Nat.le_refl _) _ _ _ _ _ _ _ _) (put8_same HG2.out _ _ _ _ _ _ _ _) _ rfl rfl
 | true=>
  cases B2 with
  | false=>
   obtain⟨⟨z0,z1,z2,z3⟩,z4,z5,z6,z7⟩:=box8 HG2.out
   obtain⟨⟨f0,f1,f2,f3⟩,f4,f5,f6,f7⟩:=frozen8 HG2.out
   go_wp2_with fail
   refine HNONE.out (by first | rfl | simp) (put8 W2 w.heap.size (.int .i64 0) (.string (⟨#[]⟩:ByteArray)) (.slice none 0 0) (.slice none 0 0) (.slice none 0 0) (.int .i64 0) (.string (⟨#[]⟩:ByteArray)) (.string (⟨#[]⟩:ByteArray))) (put8_below HBW.out (Nat.le_refl _) _ _ _ _ _ _ _ _) (put8_same HG2.out _ _ _ _ _ _ _ _) _ rfl rfl
  | true=>
   cases B3 with
   | false=>
    obtain⟨⟨z0,z1,z2,z3⟩,z4,z5,z6,z7⟩:=box8 HG2.out
    obtain⟨⟨f0,f1,f2,f3⟩,f4,f5,f6,f7⟩:=frozen8 HG2.out
    go_wp2_with fail
    refine HNONE.out (by first | rfl | simp) (put8 W2 w.heap.size (.int .i64 0) (.string (⟨#[]⟩:ByteArray)) (.slice none 0 0) (.slice none 0 0) (.slice none 0 0) (.int .i64 0) (.string (⟨#[]⟩:ByteArray)) (.string (⟨#[]⟩:ByteArray))) (put8_below HBW.out (Nat.le_refl _) _ _ _ _ _ _ _ _) (put8_same HG2.out _ _ _ _ _ _ _ _) _ rfl rfl
   | true=>
    obtain⟨hn2,hn2c,hC2⟩:=HL2.out rfl
    obtain⟨l,hl⟩:∃ l,l=d.f3:=⟨_,rfl⟩
    rw[← hl]at hn2 hC2 hdl
    subst hn2
    obtain⟨K,hK⟩:∃ K,K=kidsD l:=⟨_,rfl⟩
    have hfin:∀ e W,RP e W↔ObPost (K.map fun ks=>⟨1,s0,rws,ks,[],0,⟨#[]⟩,⟨#[]⟩⟩) w e W:=fun e W=>by
     have x1:a.f0=2:=of_decide_eq_true HB1.out
     rw[HRP.out,if_pos ⟨x1,HTK.out.2,HB3.out⟩,hK,hl,← HS0.out x1,HTK.out.1]
    have HFIN:=Lib.hid hfin
    have HC2:=Lib.hid (Kd.C_below hC2 HBW.out)
    have HKK:=Lib.hid (show K=(kidsD (l.drop 0)).map (([]:List S115) ++ ·)by rw[hK,List.drop_zero];simp)
    clear hfin hC2 hK hl HNONE
    go_wp2_with fail
    obtain⟨W3,hW3⟩:∃ W3,W3=W2.alloc (.cells #[.int .i64 1,.string s0,.slice Ar rws.length cr,.slice none 0 0,.slice none 0 0,.int .i64 0,.string (⟨#[]⟩:ByteArray),.string (⟨#[]⟩:ByteArray)] 27):=⟨_,rfl⟩
    rw[← hW3]
    have hni:NodeIn W2 W2.heap.size s0 (.slice Ar rws.length cr) (.slice none 0 0) [] W3:=
     ⟨by rw[hW3];exact(Below.refl _ _).alloc (Nat.le_refl _) _,Nat.le_refl _,by rw[hW3];exact alloc_lastV _ _,Kd.R_nil _ _ _ _ _⟩
    have HNI:=Lib.hid hni
    clear hni hW3 d0 d1 d2
    go_loopw [52] (fun i wr=>∃ (j:Nat) (acc:List S115) (v:Value),i = .int .i64 (j:Int)∧j≤l.length∧acc.length=j∧NodeIn W2 W2.heap.size s0 (.slice Ar rws.length cr) v acc wr∧Hid (K=(kidsD (l.drop j)).map (acc ++ ·))) (fun i _=>l.length - (intOf i).toNat)
    case atStart=>exact⟨0,[],_,rfl,Nat.zero_le _,rfl,HNI.out,HKK⟩
    case round=>
     obtain⟨i,acc,v,rfl,hi,hal,hni,hr⟩:=hrel
     obtain⟨Av,cv,rfl,hvc,hvC⟩:=Kd.R_reads hni.row
     have HNJ:=Lib.hid hni
     have HAL:=Lib.hid hal
     have HBR:=Lib.hid (HBW.out.trans (hni.below.mono HBW.out.size))
     have HGR:=Lib.hid ((hni.below.block _ HS12.out).trans HG2.out)
     by_cases hil:i < l.length
     ·obtain⟨x,hx⟩:∃ x,l[i]? = some x:=⟨_,List.getElem?_eq_getElem hil⟩
      obtain⟨ad',u,rfl,c0,hu,hbk⟩:=any_at (Kd.C_below HC2.out hni.below) hx
      have hr2:=hr.out
      rw[kidsD_step hx]at hr2
      have HR2:=Lib.hid hr2
      have hcall:=kid_calls x u wr hu
      clear hr2 hr hx hu hni hal hvC
      cases hkd:kidD x with
      | none=>
       rw[hkd]at hcall HR2
       have HC:=Lib.hid hcall
       have hK:K=none:=HR2.out
       have HK:=Lib.hid hK
       clear hcall hkd HR2 hK
       go_wp2_with fail
       refine HC.out.mono ?_
       rintro e W4 ⟨rfl,hb4⟩
       have hb4w:=HBR.out.trans (hb4.mono HBR.out.size)
       have hg4:=(hb4.block _ (Array.getElem?_eq_some_iff.1 HGR.out).1).trans HGR.out
       obtain⟨W5,hW5⟩:∃ W5,W5=W4.alloc (.cells #[.int .u8 0,.string (⟨#[]⟩:ByteArray)] 115):=⟨_,rfl⟩
       have hn5:Below W4.heap.size W4 W5:=by rw[hW5];exact(Below.refl _ _).alloc (Nat.le_refl _) _
       have hg5:=(hn5.block _ (Array.getElem?_eq_some_iff.1 hg4).1).trans hg4
       have hb5:=hb4w.trans (hn5.mono hb4w.size)
       obtain⟨⟨z0,z1,z2,z3⟩,z4,z5,z6,z7⟩:=box8 hg5
       obtain⟨⟨f0,f1,f2,f3⟩,f4,f5,f6,f7⟩:=frozen8 hg5
       have HG5:=Lib.hid hg5
       have HB5:=Lib.hid hb5
       rw[hW5]at z0 z1 z2 z3 z4 z5 z6 z7 f0 f1 f2 f3 f4 f5 f6 f7
       have HW5:=Lib.hid hW5
       clear hb4 hb4w hg4 hn5 hg5 hb5 hW5
       unfold kidVal z115
       simp only[Option.getD_none,Option.isSome_none]
       go_wp2_with fail
       rw[← HW5.out]
       refine bodyPost_ret (results_ob ob_results _ _ w.heap.size _ _ _ _ _ _ _ _ _ rfl rfl (put8_same HG5.out (.int .i64 0) (.string (⟨#[]⟩:ByteArray)) (.slice none 0 0) (.slice none 0 0) (.slice none 0 0) (.int .i64 0) (.string (⟨#[]⟩:ByteArray)) (.string (⟨#[]⟩:ByteArray)))) rfl ?_
       rw[HFIN.out,HK.out]
       exact⟨none,0,none,0,none,0,rfl,ObR_zero _ _,put8_below HB5.out (Nat.le_refl _) _ _ _ _ _ _ _ _⟩
      | some y=>
       rw[hkd]at hcall HR2
       have HC:=Lib.hid hcall
       clear hcall hkd
       go_wp2_with fail
       refine HC.out.mono ?_
       rintro e W4 ⟨rfl,hb4⟩
       obtain⟨W5,hW5⟩:∃ W5,W5=W4.alloc (.cells #[.int .u8 y.f0,.string y.f1] 115):=⟨_,rfl⟩
       have hn5:Below W4.heap.size W4 W5:=by rw[hW5];exact(Below.refl _ _).alloc (Nat.le_refl _) _
       obtain⟨W6,hW6⟩:∃ W6,W6=W5.alloc (.cells #[.int .u8 y.f0,.string y.f1] 115):=⟨_,rfl⟩
       have hn6:Below W5.heap.size W5 W6:=by rw[hW6];exact(Below.refl _ _).alloc (Nat.le_refl _) _
       have hg6:W6.heap[W5.heap.size]? = some (.cells #[.int .u8 y.f0,.string y.f1] 115 (0,0)):=by rw[hW6];exact alloc_lastV _ _
       have hbw6:Below wr.heap.size wr W6:=(hb4.trans (hn5.mono hb4.size)).trans (hn6.mono (Nat.le_trans hb4.size hn5.size))
       have hni6:=HNJ.out.later hbw6
       have hni5:=HNJ.out.later (hb4.trans (hn5.mono hb4.size))
       have hgl:=(Array.getElem?_eq_some_iff.1 hni6.blk).1
       obtain⟨v8,W8,hr8,hg8,hR8⟩:=append_kid (b0:=W2.heap.size+1) hni6.row (by omega) hg6 (by have:=HAL.out;omega) 24
       obtain⟨A8,c8,rfl,_,_⟩:=Kd.R_reads hR8
       have hst:=hni6.step hg8 hR8
       obtain⟨_,inner,hown,_⟩:=hni6.row
       have hblk8:=(hg8.block W2.heap.size hgl (fun e=>by have:=own_base hown _ e.symm;omega)).trans hni6.blk
       have y3:W8.cell? ⟨W2.heap.size,3,none⟩=some (.slice Av acc.length cv):=(box8 hblk8).1.2.2.2
       have x3:W8.frozen? ⟨W2.heap.size,3,none⟩=false:=Lib.frozen_of_heap hblk8 3
       have w3:W5.cell? ⟨W2.heap.size,3,none⟩=some (.slice Av acc.length cv):=(box8 hni5.blk).1.2.2.2
       have HST:=Lib.hid hst
       have hs5:W5.heap.size=W4.heap.size+1:=by rw[hW5];simp
       rw[hs5,hW6,hW5]at hr8
       have HAPP:=Lib.hid hr8
       rw[hW5]at w3
       have HR9:=Lib.hid (show K=(kidsD (l.drop (i+1))).map ((acc ++ [y]) ++ ·)by
        rw[HR2.out,Option.map_map];congr 1;funext z;simp)
       clear hst hR8 hg8 hni6 hni5 hbw6 hg6 hn6 hW6 hn5 hW5 hb4 hr8 hs5 hown hblk8 hgl
       unfold kidVal
       simp only[Option.getD_some,Option.isSome_some]
       go_wp2_with (refine wpList_value rfl (exec_append _ _ 24 rfl HAPP.out) ?_)
       go_roundw
       case rel=>exact⟨i+1,acc ++ [y],_,by go_num,hil,by rw[List.length_append];have:=HAL.out;simp;omega,by have:=HST.out;rwa [List.length_append,List.length_singleton]at this,HR9⟩
       case measure=>simp[intOf];omega
     ·have hie:i=l.length:=by omega
      have hr2:=hr.out
      rw[hie,List.drop_length,kidsD,Option.map_some,List.append_nil]at hr2
      have HK:=Lib.hid hr2
      obtain⟨⟨z0,z1,z2,z3⟩,z4,z5,z6,z7⟩:=box8 HGR.out
      obtain⟨⟨f0,f1,f2,f3⟩,f4,f5,f6,f7⟩:=frozen8 HGR.out
      obtain⟨⟨y0,y1,y2,y3⟩,y4,y5,y6,y7⟩:=box8 hni.blk
      have hp:=put8_below (B:=w.heap.size) HBR.out (Nat.le_refl _) (.int .i64 1) (.string s0) (.slice Ar rws.length cr) (.slice Av acc.length cv) (.slice none 0 0) (.int .i64 0) (.string (⟨#[]⟩:ByteArray)) (.string (⟨#[]⟩:ByteArray))
      have hsm:=put8_same HGR.out (.int .i64 1) (.string s0) (.slice Ar rws.length cr) (.slice Av acc.length cv) (.slice none 0 0) (.int .i64 0) (.string (⟨#[]⟩:ByteArray)) (.string (⟨#[]⟩:ByteArray))
      have hob:ObR (put8 wr w.heap.size (.int .i64 1) (.string s0) (.slice Ar rws.length cr) (.slice Av acc.length cv) (.slice none 0 0) (.int .i64 0) (.string (⟨#[]⟩:ByteArray)) (.string (⟨#[]⟩:ByteArray))) w.heap.size ⟨1,s0,rws,acc,[],0,⟨#[]⟩,⟨#[]⟩⟩ Ar cr Av cv none 0:=by
       have h1:ObR wr W1.heap.size ⟨1,s0,rws,acc,[],0,⟨#[]⟩,⟨#[]⟩⟩ Ar cr Av cv none 0:=⟨Kd.R_below HCR.out hni.below,Kd.R_lower hni.row (by have:=HS12.out;have:=HS1.out;omega),Kd.R_nil _ _ _ _ _⟩
       exact h1.move (fun k hk _=>put8_far (by have:=HS1.out;omega) _ _ _ _ _ _ _ _) (by have:=HS1.out;omega)
      have HP:=Lib.hid hp
      have HSM:=Lib.hid hsm
      have HOB:=Lib.hid hob
      clear hie hr2 hr hni hvC hal hp hsm hob
      go_wp2_with fail
      refine bodyPost_ret (results_ob ob_results _ _ w.heap.size _ _ _ _ _ _ _ _ _ rfl rfl HSM.out) rfl ?_
      rw[HFIN.out,HK.out]
      exact⟨Ar,cr,Av,cv,none,0,rfl,HOB.out,HP.out⟩
end Go.Proofs.YtlmabbigfdbmbaaGreatDoor.PShelfNil
namespace Go.Proofs.YtlmabbigfdbmbaaGreatDoor.PShelfNil
open Go.RowKit Go.Proofs.YtlmabbigfdbmbaaGreatDoor.Ord Go.Proofs.YtlmabbigfdbmbaaGreatDoor.Obj Go.Proofs.YtlmabbigfdbmbaaGreatDoorW.PrintWords Go.Proofs.YtlmabbigfdbmbaaGreatDoorW.PrintLast Go.Proofs.YtlmabbigfdbmbaaGreatDoorW.PrintMore
attribute [local irreducible] OpGives
def strsD:List S32→Option (List ByteArray)
 | []=>some []
 | x :: xs=>if x.f0=2 then (strsD xs).map (x.f2 :: ·)else none
theorem strsD_step{l:List S32}{i:Nat}{x:S32}(h:l[i]? = some x):strsD (l.drop i)=if x.f0=2 then (strsD (l.drop (i+1))).map (x.f2 :: ·)else none:=by
 obtain⟨hi,hx⟩:=List.getElem?_eq_some_iff.1 h
 rw[List.drop_eq_getElem_cons hi,strsD,hx]
theorem infoStr:(Tryz.prog.info? 9).map (fun i=>(i.zero,i.size,i.bytes))=some (some (.string (⟨#[]⟩:ByteArray)),1,16):=by kernel_rfl
theorem append_str{W:World}{b0:Nat}{v:Value}{acc:List ByteArray}{x:ByteArray}{g:Nat}(hR:rS W b0 v acc)(hb0:b0≤W.heap.size)
  (hg:W.heap[g]? = some (.cells #[.string x] 9 (0,0))) (hn:acc.length≤1000000) (ty:TypeId) :
  ∃ v' W',(Builtin.append_ #[25,25] ty #[v,.slice (some ⟨g,0,none⟩) 1 1]).run Tryz.prog W = .ok v' W'∧W.grownBy W' v.ownBlock∧rS W' b0 v' (acc ++ [x]):=by
 obtain⟨i0,hi0,hz0,hz1,hz2⟩:=info_parts infoStr
 have hgs:=(Array.getElem?_eq_some_iff.1 hg).1
 obtain⟨h0,inner,hown,hreps⟩:=hR
 have hbn:(acc.length+1) * 16≤1000001 * 16:=Nat.mul_le_mul (by omega) (Nat.le_refl _)
 obtain⟨h,cap,W',hr,hown',hgr,hat,_⟩:=run_append_lies (P:=Tryz.prog) W 25 ty b0 9 i0 _ 1 16 Tryz.underlying25 hi0 hz0 hz1 hz2 (by rfl) (by decide) v acc.length _ hown ⟨g,0,none⟩ 1 1 [.string x]
  (by rfl) (World.news_of_block (cs:=#[.string x]) hg) (by
   intro u hu
   rw[List.mem_singleton.1 hu];rfl) (by decide) (by unfold maxLen;omega) (by omega) hb0 W.heap.size rfl
 have hm3:Kd.M Kd.string W b0 (fun _=>False) x [.string x]:=by unfold Kd.string Kd.scalar;first | rfl | exact rfl
 have hres:=Kd.R_appended (d:=Kd.string) (e:=9) (base:=b0) (ok:=fun _=>True) (W:=W) (w1:=W') (v:=v) (v1:=.slice (some ⟨h,0,none⟩) (acc.length+1) cap) h0 hreps hm3 (fun k hk=>hk.elim) (fun k hk=>trivial) hown' hgr
  (hat.elim (fun e=> .inl (by rw[e];rfl)) (fun e=> .inr ⟨h,rfl,by omega⟩))
 exact⟨_,W',hr,hgr,hres⟩
def commitD(a b c d:S32):Option Ob:=
 if isL a=true∧b.f0=1∧c.f0=2∧d.f0=2 then (strsD a.f3).map (fun ps=>⟨2,⟨#[]⟩,[],[],ps,b.f1,c.f2,d.f2⟩)else none
theorem ob_results2:(Tryz.f122).results=#[.cell 2 27,.tmp 3]:=Tryz.results122
structure CommIn(w2:World)(g:Nat)(st:Int)(nt rt:ByteArray)(v:Value)(acc:List ByteArray)(W:World):Prop where
 below:Below w2.heap.size w2 W
 ge:w2.heap.size≤g
 blk:W.heap[g]? = some (.cells #[.int .i64 2,.string (⟨#[]⟩:ByteArray),.slice none 0 0,.slice none 0 0,v,.int .i64 st,.string nt,.string rt] 27 (0,0))
 row:rS W (g+1) v acc
theorem CommIn.later{w2 W W':World}{g:Nat}{st:Int}{nt rt:ByteArray}{v:Value}{acc:List ByteArray}(h:CommIn w2 g st nt rt v acc W)(hb:Below W.heap.size W W'):CommIn w2 g st nt rt v acc W':=
 ⟨h.below.trans (hb.mono h.below.size),h.ge,(hb.block g (Array.getElem?_eq_some_iff.1 h.blk).1).trans h.blk,Kd.R_below h.row hb⟩
theorem CommIn.step{w2 W W':World}{g:Nat}{st:Int}{nt rt:ByteArray}{v v':Value}{acc acc':List ByteArray}(h:CommIn w2 g st nt rt v acc W)(hg:W.grownBy W' v.ownBlock)(hr:rS W' (g+1) v' acc') :
  CommIn w2 g st nt rt v' acc' (W'.setCell ⟨g,4,none⟩ v'):=by
 obtain⟨_,inner,hown,_⟩:=h.row
 have hgl:=(Array.getElem?_eq_some_iff.1 h.blk).1
 have hne:∀ k,k < g+1→some k≠v.ownBlock:=fun k hk e=>by have:=own_base hown k e.symm;omega
 have hblk:=(hg.block g hgl (hne g (by omega))).trans h.blk
 have hs:=h.below.size
 have hb:Below w2.heap.size w2 W':=⟨hg.os.trans h.below.os,hg.tape.trans h.below.tape,hg.output.trans h.below.output,Nat.le_trans hs hg.size,fun k hk=>(hg.block k (by omega) (hne k (by have:=h.ge;omega))).trans (h.below.block k hk)⟩
 refine⟨⟨hb.os,hb.tape,hb.output,by rw[sc_size];exact hb.size,fun k hk=>(set_far _ _ _ _ _ (by have:=h.ge;omega)).trans (hb.block k hk)⟩,h.ge,blk_put (cs':=#[.int .i64 2,.string (⟨#[]⟩:ByteArray),.slice none 0 0,.slice none 0 0,v',.int .i64 st,.string nt,.string rt]) hblk 4 v' rfl,?_⟩
 exact Kd.R_mono (Kd.R_step (Kd.R_bound hr) (fun k hk _=>set_far _ _ _ _ _ (by have:=hk.2.1;omega))) (fun _ _=>trivial)
set_option maxHeartbeats 16000000 in
set_option maxRecDepth 100000 in
theorem commitOf_calls(a b x2 d:S32)(A:Option Addr)(c:Nat)(w:World)(hA:kA.C w A 4 [a,b,x2,d])(hal:a.f3.length≤1000000) :
  Calls Tryz.prog 122 #[.slice A 4 c] w (ObPost (commitD a b x2 d) w):=by
 obtain⟨ad,u0,rfl,c0,k0,hb0⟩:=any_at (l:=[a,b,x2,d]) hA (i:=0) (x:=a) rfl
 obtain⟨ad1,u1,e1,c1,k1,hb1⟩:=any_at (l:=[a,b,x2,d]) hA (i:=1) (x:=b) rfl
 obtain⟨ad2,u2,e2,c2,k2,hb2⟩:=any_at (l:=[a,b,x2,d]) hA (i:=2) (x:=x2) rfl
 obtain⟨ad3,u3,e3,c3,k3,hb3⟩:=any_at (l:=[a,b,x2,d]) hA (i:=3) (x:=d) rfl
 cases e1;cases e2;cases e3
 rw[show ad.add 0=ad from by simp[Addr.add]]at c0 hb0
 have c1:=three_at 1 (by decide) c1
 have c2:=three_at 2 (by decide) c2
 have c3:=three_at 3 (by decide) c3
 obtain⟨A2,n2,p2,ta0,hl2⟩:=any_list k0
 obtain⟨n1,ta1,hn1'⟩:=any_int k1
 obtain⟨s2,ta2,hs2'⟩:=any_str k2
 obtain⟨s3,ta3,hs3'⟩:=any_str k3
 obtain⟨W2,hW2⟩:∃ W2,W2=w.alloc (.cells obZ 27):=⟨_,rfl⟩
 have hbw:Below w.heap.size w W2:=by rw[hW2];exact(Below.refl _ _).alloc (Nat.le_refl _) _
 have hg2:W2.heap[w.heap.size]? = some (.cells obZ 27 (0,0)):=by rw[hW2];exact alloc_lastV _ _
 have hs12:w.heap.size < W2.heap.size:=(Array.getElem?_eq_some_iff.1 hg2).1
 unfold obZ at hg2 hW2
 have HG2:=Lib.hid hg2
 have HBW:=Lib.hid hbw
 have HS12:=Lib.hid hs12
 have HW2:=Lib.hid hW2
 have HL2:=Lib.hid hl2
 have HVAL:=Lib.hid (And.intro hn1' (And.intro hs2' hs3'))
 obtain⟨RP,hRP⟩:∃ RP:Ending→World→Prop,RP=ObPost (commitD a b x2 d) w:=⟨_,rfl⟩
 rw[← hRP]
 unfold commitD at hRP
 have HRP:=Lib.hid hRP
 clear hA hl2 hbw hg2 hs12 hW2 hRP k0 k1 k2 k3 hb1 hb2 hb3 hn1' hs2' hs3'
 generalize hb1e:isL a=B1 at ta0 HL2
 generalize hb2e:decide (b.f0=1)=B2 at ta1
 generalize hb3e:decide (x2.f0=2)=B3 at ta2
 generalize hb4e:decide (d.f0=2)=B4 at ta3
 have HB:=Lib.hid (And.intro hb1e (And.intro hb2e (And.intro hb3e hb4e)))
 clear hb1e hb2e hb3e hb4e
 have hnone:(B1 && (B2 && (B3 && B4)))=false→∀ W,Below w.heap.size w W→W.heap[w.heap.size]? = some (.cells obZ 27 (0,0))→∀ tmps:Array Value,tmps.getD 2 undef = .pointer (some ⟨w.heap.size,0,none⟩)→tmps.getD 3 undef = .bool false→
   bodyPost Tryz.prog Tryz.f122 RP Exit.ret { tmps:=tmps,defers:=[] } W:=fun h W hW hg tmps t2 t3=>by
  refine bodyPost_ret (results_ob ob_results2 _ _ w.heap.size _ _ _ _ _ _ _ _ _ t2 t3 hg) rfl ?_
  rw[HRP.out,if_neg (by
   rintro⟨y1,y2,y3,y4⟩
   obtain⟨q1,q2,q3,q4⟩:=HB.out
   rw[← q1,← q2,← q3,← q4,decide_eq_true y2,decide_eq_true y3,decide_eq_true y4,y1]at h
   cases h)]
  exact⟨none,0,none,0,none,0,rfl,ObR_zero _ _,hW⟩
 have HNONE:=Lib.hid hnone
 clear hnone
 obtain⟨⟨z0,z1,z2,z3⟩,z4,z5,z6,z7⟩:=box8 HG2.out
 obtain⟨⟨f0,f1,f2,f3⟩,f4,f5,f6,f7⟩:=frozen8 HG2.out
 rw[HW2.out]at z0 z1 z2 z3 z4 z5 z6 z7 f0 f1 f2 f3 f4 f5 f6 f7
 cases B1 with
 | false=>
  go_enter Tryz.func122,Tryz.ntmps122
  go_wp2_with fail
  rw[← HW2.out]
  exact HNONE.out (by first | rfl | simp) W2 HBW.out HG2.out _ rfl rfl
 | true=>
  cases B2 with
  | false=>
   go_enter Tryz.func122,Tryz.ntmps122
   go_wp2_with fail
   rw[← HW2.out]
   exact HNONE.out (by first | rfl | simp) W2 HBW.out HG2.out _ rfl rfl
  | true=>
   cases B3 with
   | false=>
    go_enter Tryz.func122,Tryz.ntmps122
    go_wp2_with fail
    rw[← HW2.out]
    exact HNONE.out (by first | rfl | simp) W2 HBW.out HG2.out _ rfl rfl
   | true=>
    cases B4 with
    | false=>
     go_enter Tryz.func122,Tryz.ntmps122
     go_wp2_with fail
     rw[← HW2.out]
     exact HNONE.out (by first | rfl | simp) W2 HBW.out HG2.out _ rfl rfl
    | true=>
     obtain⟨hn2,hn2c,hC2⟩:=HL2.out rfl
     obtain⟨l,hl⟩:∃ l,l=a.f3:=⟨_,rfl⟩
     rw[← hl]at hn2 hC2 hal
     subst hn2
     obtain⟨K,hK⟩:∃ K,K=strsD l:=⟨_,rfl⟩
     have hfin:∀ e W,RP e W↔ObPost (K.map fun ps=>⟨2,⟨#[]⟩,[],[],ps,n1,s2,s3⟩) w e W:=fun e W=>by
      obtain⟨q1,q2,q3,q4⟩:=HB.out
      have y2:=of_decide_eq_true q2
      have y3:=of_decide_eq_true q3
      have y4:=of_decide_eq_true q4
      rw[HRP.out,if_pos ⟨q1,y2,y3,y4⟩,hK,hl,← HVAL.out.1 y2,← HVAL.out.2.1 y3,← HVAL.out.2.2 y4]
     have HFIN:=Lib.hid hfin
     have HC2:=Lib.hid (Kd.C_below hC2 HBW.out)
     have HKK:=Lib.hid (show K=(strsD (l.drop 0)).map (([]:List ByteArray) ++ ·)by rw[hK,List.drop_zero];simp)
     clear hfin hC2 hK hl HNONE
     go_enter Tryz.func122,Tryz.ntmps122
     go_wp2_with fail
     rw[← HW2.out]
     clear z0 z1 z2 z3 z4 z5 z6 z7 f0 f1 f2 f3 f4 f5 f6 f7
     obtain⟨W3,hW3⟩:∃ W3,W3=W2.alloc (.cells #[.int .i64 2,.string (⟨#[]⟩:ByteArray),.slice none 0 0,.slice none 0 0,.slice none 0 0,.int .i64 n1,.string s2,.string s3] 27):=⟨_,rfl⟩
     rw[← hW3]
     have hs2e:W2.heap.size=w.heap.size+1:=by rw[HW2.out];simp
     have hni:CommIn W2 (w.heap.size+1) n1 s2 s3 (.slice none 0 0) [] W3:=
      ⟨by rw[hW3];exact(Below.refl _ _).alloc (Nat.le_refl _) _,by omega,by rw[hW3,← hs2e];exact alloc_lastV _ _,Kd.R_nil _ _ _ _ _⟩
     have HNI:=Lib.hid hni
     have HS2E:=Lib.hid hs2e
     clear hni hW3 c0 c1 c2 c3 hs2e
     go_loopw [66] (fun i wr=>∃ (j:Nat) (acc:List ByteArray) (v:Value),i = .int .i64 (j:Int)∧j≤l.length∧acc.length=j∧CommIn W2 (w.heap.size+1) n1 s2 s3 v acc wr∧Hid (K=(strsD (l.drop j)).map (acc ++ ·))) (fun i _=>l.length - (intOf i).toNat)
     case atStart=>exact⟨0,[],_,rfl,Nat.zero_le _,rfl,HNI.out,HKK⟩
     case round=>
      obtain⟨i,acc,v,rfl,hi,hac,hni,hr⟩:=hrel
      obtain⟨Av,cv,rfl,hvc,hvC⟩:=Kd.R_reads hni.row
      have HNJ:=Lib.hid hni
      have HAC:=Lib.hid hac
      have HBR:=Lib.hid (HBW.out.trans (hni.below.mono HBW.out.size))
      have HGR:=Lib.hid ((hni.below.block _ HS12.out).trans HG2.out)
      by_cases hil:i < l.length
      ·obtain⟨x,hx⟩:∃ x,l[i]? = some x:=⟨_,List.getElem?_eq_getElem hil⟩
       obtain⟨ad',u,rfl,c0,hu,hbk⟩:=any_at (Kd.C_below HC2.out hni.below) hx
       have hr2:=hr.out
       rw[strsD_step hx]at hr2
       have HR2:=Lib.hid hr2
       obtain⟨sx,tax,hsx⟩:=any_str hu
       clear hr2 hr hx hu hni hac hvC
       by_cases hkd:x.f0=2
       ·have hr3:=HR2.out
        rw[if_pos hkd]at hr3
        rw[decide_eq_true hkd]at tax
        have hsx':=hsx hkd
        obtain⟨W6,hW6⟩:∃ W6,W6=wr.alloc (.cells #[.string sx] 9):=⟨_,rfl⟩
        have hn6:Below wr.heap.size wr W6:=by rw[hW6];exact(Below.refl _ _).alloc (Nat.le_refl _) _
        have hg6:W6.heap[wr.heap.size]? = some (.cells #[.string sx] 9 (0,0)):=by rw[hW6];exact alloc_lastV _ _
        have hni6:=HNJ.out.later hn6
        have hgl:=(Array.getElem?_eq_some_iff.1 hni6.blk).1
        obtain⟨v8,W8,hr8,hg8,hR8⟩:=append_str (b0:=w.heap.size+1+1) hni6.row (by omega) hg6 (by have:=HAC.out;omega) 25
        obtain⟨A8,c8,rfl,_,_⟩:=Kd.R_reads hR8
        have hst:=hni6.step hg8 hR8
        obtain⟨_,inner,hown,_⟩:=hni6.row
        have hblk8:=(hg8.block (w.heap.size+1) hgl (fun e=>by have:=own_base hown _ e.symm;omega)).trans hni6.blk
        have y4:W8.cell? ⟨w.heap.size+1,4,none⟩=some (.slice Av acc.length cv):=(box8 hblk8).2.1
        have x4:W8.frozen? ⟨w.heap.size+1,4,none⟩=false:=Lib.frozen_of_heap hblk8 4
        have w4:wr.cell? ⟨w.heap.size+1,4,none⟩=some (.slice Av acc.length cv):=(box8 HNJ.out.blk).2.1
        have HST:=Lib.hid hst
        rw[hW6]at hr8
        have HAPP:=Lib.hid hr8
        have HR9:=Lib.hid (show K=(strsD (l.drop (i+1))).map ((acc ++ [sx]) ++ ·)by
         rw[hr3,Option.map_map,hsx'];congr 1;funext z;simp)
        clear hst hR8 hg8 hni6 hg6 hn6 hW6 hr8 hown hblk8 hgl hr3 hsx hsx' hkd HR2
        go_wp2_with (refine wpList_value rfl (exec_append _ _ 25 rfl HAPP.out) ?_)
        go_roundw
        case rel=>exact⟨i+1,acc ++ [sx],_,by go_num,hil,by rw[List.length_append];have:=HAC.out;simp;omega,by have:=HST.out;rwa [List.length_append,List.length_singleton]at this,HR9⟩
        case measure=>simp[intOf];omega
       ·have hr3:=HR2.out
        rw[if_neg hkd]at hr3
        rw[decide_eq_false hkd]at tax
        have HK:=Lib.hid (show K=none from hr3)
        obtain⟨⟨z0,z1,z2,z3⟩,z4,z5,z6,z7⟩:=box8 HGR.out
        obtain⟨⟨f0,f1,f2,f3⟩,f4,f5,f6,f7⟩:=frozen8 HGR.out
        clear hr3 hkd hsx HR2
        go_wp2_with fail
        refine bodyPost_ret (results_ob ob_results2 _ _ w.heap.size _ _ _ _ _ _ _ _ _ rfl rfl (put8_same HGR.out (.int .i64 0) (.string (⟨#[]⟩:ByteArray)) (.slice none 0 0) (.slice none 0 0) (.slice none 0 0) (.int .i64 0) (.string (⟨#[]⟩:ByteArray)) (.string (⟨#[]⟩:ByteArray)))) rfl ?_
        rw[HFIN.out,HK.out]
        exact⟨none,0,none,0,none,0,rfl,ObR_zero _ _,put8_below HBR.out (Nat.le_refl _) _ _ _ _ _ _ _ _⟩
      ·have hie:i=l.length:=by omega
       have hr2:=hr.out
       rw[hie,List.drop_length,strsD,Option.map_some,List.append_nil]at hr2
       have HK:=Lib.hid hr2
       obtain⟨⟨z0,z1,z2,z3⟩,z4,z5,z6,z7⟩:=box8 HGR.out
       obtain⟨⟨f0,f1,f2,f3⟩,f4,f5,f6,f7⟩:=frozen8 HGR.out
       obtain⟨⟨y0,y1,y2,y3⟩,y4,y5,y6,y7⟩:=box8 hni.blk
       have hp:=put8_below (B:=w.heap.size) HBR.out (Nat.le_refl _) (.int .i64 2) (.string (⟨#[]⟩:ByteArray)) (.slice none 0 0) (.slice none 0 0) (.slice Av acc.length cv) (.int .i64 n1) (.string s2) (.string s3)
       have hsm:=put8_same HGR.out (.int .i64 2) (.string (⟨#[]⟩:ByteArray)) (.slice none 0 0) (.slice none 0 0) (.slice Av acc.length cv) (.int .i64 n1) (.string s2) (.string s3)
       have hob:ObR (put8 wr w.heap.size (.int .i64 2) (.string (⟨#[]⟩:ByteArray)) (.slice none 0 0) (.slice none 0 0) (.slice Av acc.length cv) (.int .i64 n1) (.string s2) (.string s3)) w.heap.size ⟨2,⟨#[]⟩,[],[],acc,n1,s2,s3⟩ none 0 none 0 Av cv:=by
        have h1:ObR wr (w.heap.size+1) ⟨2,⟨#[]⟩,[],[],acc,n1,s2,s3⟩ none 0 none 0 Av cv:=⟨Kd.R_nil _ _ _ _ _,Kd.R_nil _ _ _ _ _,Kd.R_lower hni.row (by omega)⟩
        exact h1.move (fun k hk _=>put8_far (by omega) _ _ _ _ _ _ _ _) (by omega)
       have HP:=Lib.hid hp
       have HSM:=Lib.hid hsm
       have HOB:=Lib.hid hob
       clear hie hr2 hr hni hvC hac hp hsm hob
       go_wp2_with fail
       refine bodyPost_ret (results_ob ob_results2 _ _ w.heap.size _ _ _ _ _ _ _ _ _ rfl rfl HSM.out) rfl ?_
       rw[HFIN.out,HK.out]
       exact⟨none,0,none,0,Av,cv,rfl,HOB.out,HP.out⟩
end Go.Proofs.YtlmabbigfdbmbaaGreatDoor.PShelfNil
namespace Go.Proofs.YtlmabbigfdbmbaaGreatDoor.PShelfNil
open Go.RowKit Go.Proofs.YtlmabbigfdbmbaaGreatDoor.Ord Go.Proofs.YtlmabbigfdbmbaaGreatDoor.Obj Go.Proofs.YtlmabbigfdbmbaaGreatDoorW.PrintWords Go.Proofs.YtlmabbigfdbmbaaGreatDoorW.PrintLast Go.Proofs.YtlmabbigfdbmbaaGreatDoorW.PrintMore
attribute [local irreducible] OpGives
attribute [local go_sem] ta_ii ta_is ta_il ta_si ta_ss ta_sl ta_li ta_ls ta_ll
def objL:List S32→Option Ob
 | [k,a,b,d]=>if k.f0=1∧k.f1=1 then nodeD a b d else none
 | [k,a,b,c,d]=>if k.f0=1∧k.f1=2 then commitD a b c d else none
 | _=>none
def objD(x:S32):Option Ob:=if isL x then objL x.f3 else none
theorem ob_results3:(Tryz.f85).results=#[.cell 2 27,.tmp 3]:=Tryz.results85
theorem C_tail{w:World}{ad:Addr}{x:S32}{l:List S32}{n:Nat}(h:kA.C w (some ad) (n+1) (x :: l)):kA.C w (some (ad.add 1)) n l:=by
 obtain⟨h1,h2,h3⟩:=h
 refine⟨by simpa using h1,by omega,fun hn=>⟨_,rfl,fun j p hj=>?_⟩⟩
 obtain⟨ad',e,hc⟩:=h3 (by omega)
 cases e
 obtain⟨c,hc1,hR,hcell⟩:=hc (j+1) p (by simpa using hj)
 refine⟨c,hc1,hR,fun i u hu=>?_⟩
 have:=hcell i u hu
 rw[Go.Deep.add_add,show 1+(j * kA.sz+i)=(j+1) * kA.sz+i by rw[show kA.sz=1 from rfl];omega]
 exact this
set_option maxRecDepth 100000 in
theorem obj_atom(u:Value)(w:World)(hu:(∃ v,u = .iface 3 v)∨∃ v,u = .iface 9 v):Calls Tryz.prog 85 #[u] w (ObPost none w):=by
 rcases hu with ⟨v,rfl⟩ | ⟨v,rfl⟩
 ·go_enter Tryz.func85,Tryz.ntmps85
  go_wp2
  refine bodyPost_ret (results_ob ob_results3 _ _ w.heap.size _ _ _ _ _ _ _ _ _ rfl rfl (alloc_lastV _ _)) rfl ?_
  exact⟨none,0,none,0,none,0,rfl,ObR_zero _ _,(Below.refl _ _).alloc (Nat.le_refl _) _⟩
 ·go_enter Tryz.func85,Tryz.ntmps85
  go_wp2
  refine bodyPost_ret (results_ob ob_results3 _ _ w.heap.size _ _ _ _ _ _ _ _ _ rfl rfl (alloc_lastV _ _)) rfl ?_
  exact⟨none,0,none,0,none,0,rfl,ObR_zero _ _,(Below.refl _ _).alloc (Nat.le_refl _) _⟩
set_option maxHeartbeats 8000000 in
set_option maxRecDepth 100000 in
theorem obj_none(A:Option Addr)(n c:Nat)(kv:Int)(bk:Bool)(w:World)(hv:0 < n→∃ ad u,A=some ad∧w.cell? ad=some u∧ad.block < w.heap.size∧∀ W,(Instr.typeAssert u 161 3 true).run Tryz.prog W = .ok (.tuple #[.int .i64 kv,.bool bk]) W)
  (h1:¬ (bk=true∧kv=1∧n=4)) (h2:¬ (bk=true∧kv=2∧n=5)) :
  Calls Tryz.prog 85 #[.iface 217 (.slice A n c)] w (ObPost none w):=by
 rcases Nat.eq_zero_or_pos n with h0 | h0
 ·subst h0
  go_enter Tryz.func85,Tryz.ntmps85
  go_wp2
  refine bodyPost_ret (results_ob ob_results3 _ _ w.heap.size _ _ _ _ _ _ _ _ _ rfl rfl (alloc_lastV _ _)) rfl ?_
  exact⟨none,0,none,0,none,0,rfl,ObR_zero _ _,(Below.refl _ _).alloc (Nat.le_refl _) _⟩
 ·obtain⟨ad,u,rfl,c0,hbk,ta⟩:=hv h0
  have hn0:((n:Int) == 0)=false:=by rw[beq_eq_false_iff_ne];omega
  have hnp:(0:Int) < (n:Int):=by omega
  cases bk with
  | false=>
   clear h1 h2
   go_enter Tryz.func85,Tryz.ntmps85
   go_wp2
   refine bodyPost_ret (results_ob ob_results3 _ _ w.heap.size _ _ _ _ _ _ _ _ _ rfl rfl (alloc_lastV _ _)) rfl ?_
   exact⟨none,0,none,0,none,0,rfl,ObR_zero _ _,(Below.refl _ _).alloc (Nat.le_refl _) _⟩
  | true=>
   by_cases k1:kv=1
   ·subst k1
    have h4:((n:Int) == 4)=false:=by rw[beq_eq_false_iff_ne];intro e;exact h1 ⟨rfl,rfl,by omega⟩
    clear h1 h2
    go_enter Tryz.func85,Tryz.ntmps85
    go_wp2
    refine bodyPost_ret (results_ob ob_results3 _ _ w.heap.size _ _ _ _ _ _ _ _ _ rfl rfl (alloc_lastV _ _)) rfl ?_
    exact⟨none,0,none,0,none,0,rfl,ObR_zero _ _,(Below.refl _ _).alloc (Nat.le_refl _) _⟩
   ·have k1':(kv == 1)=false:=by simpa using k1
    by_cases k2:kv=2
    ·subst k2
     have h4:((n:Int) == 5)=false:=by rw[beq_eq_false_iff_ne];intro e;exact h2 ⟨rfl,rfl,by omega⟩
     clear h1 h2
     go_enter Tryz.func85,Tryz.ntmps85
     go_wp2
     refine bodyPost_ret (results_ob ob_results3 _ _ w.heap.size _ _ _ _ _ _ _ _ _ rfl rfl (alloc_lastV _ _)) rfl ?_
     exact⟨none,0,none,0,none,0,rfl,ObR_zero _ _,(Below.refl _ _).alloc (Nat.le_refl _) _⟩
    ·have k2':(kv == 2)=false:=by simpa using k2
     clear h1 h2 k1 k2
     go_enter Tryz.func85,Tryz.ntmps85
     go_wp2
     refine bodyPost_ret (results_ob ob_results3 _ _ w.heap.size _ _ _ _ _ _ _ _ _ rfl rfl (alloc_lastV _ _)) rfl ?_
     exact⟨none,0,none,0,none,0,rfl,ObR_zero _ _,(Below.refl _ _).alloc (Nat.le_refl _) _⟩
theorem parts_len(x:S32):x.f3.length≤parts x:=by
 rw[parts_eq];have:=partsL_len x.f3;omega
set_option maxHeartbeats 8000000 in
set_option maxRecDepth 100000 in
theorem obj_node(a b d:S32)(ad:Addr)(c:Nat)(u0:Value)(w:World)(c0:w.cell? ad=some u0)(hb0:ad.block < w.heap.size)
  (ta:∀ W,(Instr.typeAssert u0 161 3 true).run Tryz.prog W = .ok (.tuple #[.int .i64 1,.bool true]) W) (hC:kA.C w (some (ad.add 1)) 3 [a,b,d]) (hc:4≤c) (hbl:b.f3.length≤1000000) (hdl:d.f3.length≤1000000) (hT:Lib.Utf8Tabs 1 2 w) :
  Calls Tryz.prog 85 #[.iface 217 (.slice (some ad) 4 c)] w (ObPost (nodeD a b d) w):=by
 obtain⟨W1,hW1⟩:∃ W1,W1=w.alloc (.cells obZ 27):=⟨_,rfl⟩
 have hn1:Below w.heap.size w W1:=by rw[hW1];exact(Below.refl _ _).alloc (Nat.le_refl _) _
 have hg1:W1.heap[w.heap.size]? = some (.cells obZ 27 (0,0)):=by rw[hW1];exact alloc_lastV _ _
 have hs1:W1.heap.size=w.heap.size+1:=by rw[hW1];simp
 have HCALL:=Lib.hid (nodeOf_calls a b d (some (ad.add 1)) (c - 1) W1 (Kd.C_below hC hn1) hbl hdl (Utf8Tabs_below hT hn1))
 generalize (nodeD a b d)=r at HCALL ⊢
 have HN1:=Lib.hid hn1
 have HG1:=Lib.hid hg1
 have HS1:=Lib.hid hs1
 unfold obZ at hW1
 have HW1:=Lib.hid hW1
 have hc1:(1:Int)≤(c:Int):=by omega
 clear hn1 hg1 hs1 hW1 hC hT
 go_enter Tryz.func85,Tryz.ntmps85
 go_wp2_with fail
 rw[← HW1.out]
 refine HCALL.out.mono ?_
 rintro e W2 ⟨Ar,cr,Ak,ck,Ap,cp,rfl,hO,hb2⟩
 have hg2:=(hb2.block _ (Array.getElem?_eq_some_iff.1 HG1.out).1).trans HG1.out
 have hbw:Below w.heap.size w W2:=HN1.out.trans (hb2.mono HN1.out.size)
 unfold obZ at hg2
 obtain⟨⟨z0,z1,z2,z3⟩,z4,z5,z6,z7⟩:=box8 hg2
 obtain⟨⟨f0,f1,f2,f3⟩,f4,f5,f6,f7⟩:=frozen8 hg2
 have HG2:=Lib.hid hg2
 have HBW:=Lib.hid hbw
 have HO:=Lib.hid hO
 clear hg2 hbw hO hb2
 generalize hoo:r.getD zOb=o at HO ⊢
 obtain⟨o0,o1,o2,o3,o4,o5,o6,o7⟩:=o
 unfold obV
 simp only at HO ⊢
 have HOO:=Lib.hid hoo
 clear hoo
 go_wp2_with fail
 refine bodyPost_ret (results_ob ob_results3 _ _ w.heap.size _ _ _ _ _ _ _ _ _ rfl rfl (put8_same HG2.out (.int .i64 o0) (.string o1) (.slice Ar o2.length cr) (.slice Ak o3.length ck) (.slice Ap o4.length cp) (.int .i64 o5) (.string o6) (.string o7))) rfl ?_
 refine⟨Ar,cr,Ak,ck,Ap,cp,by rw[HOO.out];rfl,?_,put8_below HBW.out (Nat.le_refl _) _ _ _ _ _ _ _ _⟩
 rw[HOO.out]
 exact HO.out.move (fun k hk _=>put8_far (by have:=HS1.out;omega) _ _ _ _ _ _ _ _) (by have:=HS1.out;omega)
set_option maxHeartbeats 8000000 in
set_option maxRecDepth 100000 in
theorem obj_comm(a b d f:S32)(ad:Addr)(c:Nat)(u0:Value)(w:World)(c0:w.cell? ad=some u0)(hb0:ad.block < w.heap.size)
  (ta:∀ W,(Instr.typeAssert u0 161 3 true).run Tryz.prog W = .ok (.tuple #[.int .i64 2,.bool true]) W) (hC:kA.C w (some (ad.add 1)) 4 [a,b,d,f]) (hc:5≤c) (hal:a.f3.length≤1000000) :
  Calls Tryz.prog 85 #[.iface 217 (.slice (some ad) 5 c)] w (ObPost (commitD a b d f) w):=by
 obtain⟨W1,hW1⟩:∃ W1,W1=w.alloc (.cells obZ 27):=⟨_,rfl⟩
 have hn1:Below w.heap.size w W1:=by rw[hW1];exact(Below.refl _ _).alloc (Nat.le_refl _) _
 have hg1:W1.heap[w.heap.size]? = some (.cells obZ 27 (0,0)):=by rw[hW1];exact alloc_lastV _ _
 have hs1:W1.heap.size=w.heap.size+1:=by rw[hW1];simp
 have HCALL:=Lib.hid (commitOf_calls a b d f (some (ad.add 1)) (c - 1) W1 (Kd.C_below hC hn1) hal)
 generalize (commitD a b d f)=r at HCALL ⊢
 have HN1:=Lib.hid hn1
 have HG1:=Lib.hid hg1
 have HS1:=Lib.hid hs1
 unfold obZ at hW1
 have HW1:=Lib.hid hW1
 have hc1:(1:Int)≤(c:Int):=by omega
 clear hn1 hg1 hs1 hW1 hC
 go_enter Tryz.func85,Tryz.ntmps85
 go_wp2_with fail
 rw[← HW1.out]
 refine HCALL.out.mono ?_
 rintro e W2 ⟨Ar,cr,Ak,ck,Ap,cp,rfl,hO,hb2⟩
 have hg2:=(hb2.block _ (Array.getElem?_eq_some_iff.1 HG1.out).1).trans HG1.out
 have hbw:Below w.heap.size w W2:=HN1.out.trans (hb2.mono HN1.out.size)
 unfold obZ at hg2
 obtain⟨⟨z0,z1,z2,z3⟩,z4,z5,z6,z7⟩:=box8 hg2
 obtain⟨⟨f0,f1,f2,f3⟩,f4,f5,f6,f7⟩:=frozen8 hg2
 have HG2:=Lib.hid hg2
 have HBW:=Lib.hid hbw
 have HO:=Lib.hid hO
 clear hg2 hbw hO hb2
 generalize hoo:r.getD zOb=o at HO ⊢
 obtain⟨o0,o1,o2,o3,o4,o5,o6,o7⟩:=o
 unfold obV
 simp only at HO ⊢
 have HOO:=Lib.hid hoo
 clear hoo
 go_wp2_with fail
 refine bodyPost_ret (results_ob ob_results3 _ _ w.heap.size _ _ _ _ _ _ _ _ _ rfl rfl (put8_same HG2.out (.int .i64 o0) (.string o1) (.slice Ar o2.length cr) (.slice Ak o3.length ck) (.slice Ap o4.length cp) (.int .i64 o5) (.string o6) (.string o7))) rfl ?_
 refine⟨Ar,cr,Ak,ck,Ap,cp,by rw[HOO.out];rfl,?_,put8_below HBW.out (Nat.le_refl _) _ _ _ _ _ _ _ _⟩
 rw[HOO.out]
 exact HO.out.move (fun k hk _=>put8_far (by have:=HS1.out;omega) _ _ _ _ _ _ _ _) (by have:=HS1.out;omega)
theorem objectOf_calls(x:S32)(u:Value)(w:World)(h:AnyAt w x u)(hp:parts x≤1000000)(hT:Lib.Utf8Tabs 1 2 w):Calls Tryz.prog 85 #[u] w (ObPost (objD x) w):=by
 rcases any_cases h with ⟨h1,rfl⟩ | ⟨h1,rfl⟩ | ⟨h1,h2,A,c,rfl,hlc,hC⟩
 ·have:objD x=none:=by unfold objD isL;rw[decide_eq_true h1];rfl
  rw[this];exact obj_atom _ w (.inl ⟨_,rfl⟩)
 ·have:objD x=none:=by unfold objD isL;rw[decide_eq_true h1];simp
  rw[this];exact obj_atom _ w (.inr ⟨_,rfl⟩)
 ·have hd:objD x=objL x.f3:=by unfold objD;rw[if_pos (isL_of h1 h2)]
  rw[hd]
  obtain⟨xk,xn,xs,l⟩:=x
  rw[parts]at hp
  simp only at hlc hC ⊢
  clear hd h h1 h2
  cases l with
  | nil=>exact obj_none A 0 c 0 false w (fun h=>by omega) (by simp) (by simp)
  | cons k rest=>
   obtain⟨ad,u0,rfl,c0,k0,hb0⟩:=any_at (l:=k :: rest) hC (i:=0) (x:=k) rfl
   rw[show ad.add 0=ad from by simp[Addr.add]]at c0 hb0
   obtain⟨kv,ta,hkv⟩:=any_int k0
   by_cases h4:k.f0=1∧kv=1∧rest.length=3
   ·obtain⟨q1,q2,q3⟩:=h4
    obtain⟨a,b,d,rfl⟩:∃ a b d,rest = [a,b,d]:=by
     match rest,q3 with
     | [a,b,d],_=>exact⟨a,b,d,rfl⟩
    have:objL [k,a,b,d]=nodeD a b d:=by rw[objL,if_pos ⟨q1,by rw[← hkv q1];exact q2⟩]
    rw[this]
    subst q2
    rw[decide_eq_true q1]at ta
    rw[partsL,partsL,partsL,partsL,partsL]at hp
    exact obj_node a b d ad c u0 w c0 hb0 ta (C_tail hC) hlc (by have:=parts_len b;omega) (by have:=parts_len d;omega) hT
   ·by_cases h5:k.f0=1∧kv=2∧rest.length=4
    ·obtain⟨q1,q2,q3⟩:=h5
     obtain⟨a,b,d,f,rfl⟩:∃ a b d f,rest = [a,b,d,f]:=by
      match rest,q3 with
      | [a,b,d,f],_=>exact⟨a,b,d,f,rfl⟩
     have:objL [k,a,b,d,f]=commitD a b d f:=by rw[objL,if_pos ⟨q1,by rw[← hkv q1];exact q2⟩]
     rw[this]
     subst q2
     rw[decide_eq_true q1]at ta
     rw[partsL,partsL]at hp
     exact obj_comm a b d f ad c u0 w c0 hb0 ta (C_tail hC) hlc (by have:=parts_len a;omega)
    ·have:objL (k :: rest)=none:=by
      match rest with
      | []=>rfl
      | [_]=>rfl
      | [_,_]=>rfl
      | [a,b,d]=>rw[objL,if_neg];rintro⟨y1,y2⟩;exact h4 ⟨y1,by rw[hkv y1];exact y2,rfl⟩
      | [a,b,d,f]=>rw[objL,if_neg];rintro⟨y1,y2⟩;exact h5 ⟨y1,by rw[hkv y1];exact y2,rfl⟩
      | _ :: _ :: _ :: _ :: _ :: _=>rfl
     rw[this]
     exact obj_none (some ad) (rest.length+1) c kv (decide (k.f0=1)) w (fun _=>⟨ad,u0,rfl,c0,hb0,ta⟩)
      (by rintro⟨y1,y2,y3⟩;exact h4 ⟨of_decide_eq_true y1,y2,by omega⟩) (by rintro⟨y1,y2,y3⟩;exact h5 ⟨of_decide_eq_true y1,y2,by omega⟩)
end Go.Proofs.YtlmabbigfdbmbaaGreatDoor.PShelfNil
namespace Go.Proofs.YtlmabbigfdbmbaaGreatDoor.PShelfNil
open Go.RowKit Go.Proofs.YtlmabbigfdbmbaaGreatDoorW.PrintWords Go.Proofs.YtlmabbigfdbmbaaGreatDoorW.PrintLast Go.Proofs.YtlmabbigfdbmbaaGreatDoorW.PrintMore
theorem byteAt_eq{s:ByteArray}{p:Nat}(h:p < s.data.toList.length):byteAt s p=(s.data.toList[p]).toNat:=by
 unfold byteAt;rw[List.getD_eq_getElem?_getD,List.getElem?_eq_getElem h];rfl
theorem ofNat_byteAt{s:ByteArray}{p:Nat}(h:p < s.data.toList.length):UInt8.ofNat (byteAt s p)=s.data.toList[p]:=by
 rw[byteAt_eq h];simp
def cut(s:ByteArray)(p n:Nat):List UInt8:=(s.data.toList.drop p).take n
theorem cut_zero(s:ByteArray)(p:Nat):cut s p 0 = []:=by simp[cut]
theorem cut_snoc{s:ByteArray}{p n:Nat}(h:p+n < s.data.toList.length):cut s p (n+1)=cut s p n ++ [UInt8.ofNat (byteAt s (p+n))]:=by
 unfold cut
 rw[List.take_succ_eq_append_getElem (by rw[List.length_drop];omega),ofNat_byteAt h]
 simp
theorem cut_cons{s:ByteArray}{p n:Nat}(h:p < s.data.toList.length):cut s p (n+1)=UInt8.ofNat (byteAt s p) :: cut s (p+1) n:=by
 unfold cut
 rw[List.drop_eq_getElem_cons h,List.take_succ_cons,ofNat_byteAt h]
theorem cut_append(s:ByteArray)(p n m:Nat):cut s p (n+m)=cut s p n++cut s (p+n) m:=by
 unfold cut
 rw[List.take_add,List.drop_drop]
theorem cut_len{s:ByteArray}{p n:Nat}(h:p+n≤s.data.toList.length):(cut s p n).length=n:=by
 unfold cut;rw[List.length_take,List.length_drop];omega
theorem numAt_mono (s : ByteArray) (p : Nat) {m n : Nat} (h : m ≤ n) : numAt s p m ≤ numAt s p n := by
  induction n with
  | zero => obtain rfl : m = 0 := by omega
            exact Nat.le_refl _
  | succ n ih =>
    rcases Nat.lt_or_ge n m with h' | h'
    · obtain rfl : m = n + 1 := by omega
      exact Nat.le_refl _
    · rw [numAt]; have := ih h'; omega
theorem numAt_pos{s:ByteArray}{p n:Nat}(hn:0 < n)(h:byteAt s p≠0):0 < numAt s p n:=by
 have:=numAt_mono s p (m:=1) (n:=n) hn
 have e:numAt s p 1=byteAt s p:=by simp[numAt]
 omega
theorem bes_num{s:ByteArray}{p:Nat} : ∀ n,p+n≤s.data.toList.length→(0 < n→byteAt s p≠0)→bes (numAt s p n)=cut s p n
 | 0,_,_=>by rw[cut_zero,numAt,bes_zero]
 | n+1,hl,h0=>by
  have hb:=byteAt_lt s (p+n)
  have hp:0 < numAt s p (n+1):=numAt_pos (by omega) (h0 (by omega))
  rw[bes_pos hp,cut_snoc (by omega),← bes_num n (by omega) (fun _=>h0 (by omega)),numAt]
  rw[show(numAt s p n * 256+byteAt s (p+n)) / 256=numAt s p n by omega,show(numAt s p n * 256+byteAt s (p+n)) % 256=byteAt s (p+n)by omega]
def rowR:DR (List S32)→DR S32
 | .ok l q=> .ok ⟨3,0,⟨#[]⟩,l⟩ q
 | .bad p e=> .bad p e
theorem cellW_eq(s:ByteArray)(deep:Bool)(g:Nat→DR S32)(p:Nat):cellW s deep g p =
 if s.size < p+1 then .bad s.size 3
 else if byteAt s p / 16 < 1∨4 < byteAt s p / 16 then .bad p 4
  else if widthOf (byteAt s p / 16) < byteAt s p % 16 then .bad p 4
  else if deep=false then .bad p 5
  else if s.size < p+1+byteAt s p % 16 then .bad s.size 3
  else if 0 < byteAt s p % 16∧byteAt s (p+1)=0 then .bad p 4
  else if mostOf (byteAt s p / 16) < numAt s (p+1) (byteAt s p % 16)then .bad p 4
   else if byteAt s p / 16=1 then .ok ⟨1,(numAt s (p+1) (byteAt s p % 16):Int),⟨#[]⟩,[]⟩ (p+1+byteAt s p % 16)
   else if byteAt s p / 16=2 then .ok ⟨1,-1 - (numAt s (p+1) (byteAt s p % 16):Int),⟨#[]⟩,[]⟩ (p+1+byteAt s p % 16)
   else if byteAt s p / 16=3 then (if s.size < p+1+byteAt s p % 16+numAt s (p+1) (byteAt s p % 16)then .bad s.size 3 else .ok ⟨2,0,s.extract (p+1+byteAt s p % 16) (p+1+byteAt s p % 16+numAt s (p+1) (byteAt s p % 16)),[]⟩ (p+1+byteAt s p % 16+numAt s (p+1) (byteAt s p % 16)))
   else rowR (manyW g (numAt s (p+1) (byteAt s p % 16)) (p+1+byteAt s p % 16) []):=rfl
theorem cellW_ok{s:ByteArray}{deep:Bool}{g:Nat→DR S32}{p:Nat}{x:S32}{q:Nat}(h:cellW s deep g p = .ok x q) :
    p < s.size∧1≤byteAt s p / 16∧byteAt s p / 16≤4∧byteAt s p % 16≤widthOf (byteAt s p / 16)∧deep=true∧p+1+byteAt s p % 16≤s.size∧(0 < byteAt s p % 16→byteAt s (p+1)≠0)∧numAt s (p+1) (byteAt s p % 16)≤mostOf (byteAt s p / 16)∧
    ((byteAt s p / 16=1∧x=⟨1,(numAt s (p+1) (byteAt s p % 16):Int),⟨#[]⟩,[]⟩∧q=p+1+byteAt s p % 16)∨
     (byteAt s p / 16=2∧x=⟨1,-1 - (numAt s (p+1) (byteAt s p % 16):Int),⟨#[]⟩,[]⟩∧q=p+1+byteAt s p % 16)∨
     (byteAt s p / 16=3∧p+1+byteAt s p % 16+numAt s (p+1) (byteAt s p % 16)≤s.size∧x=⟨2,0,s.extract (p+1+byteAt s p % 16) (p+1+byteAt s p % 16+numAt s (p+1) (byteAt s p % 16)),[]⟩∧q=p+1+byteAt s p % 16+numAt s (p+1) (byteAt s p % 16))∨
     (byteAt s p / 16=4∧∃ l,manyW g (numAt s (p+1) (byteAt s p % 16)) (p+1+byteAt s p % 16) [] = .ok l q∧x=⟨3,0,⟨#[]⟩,l⟩)):=by
  rw[cellW_eq]at h
  by_cases h1:s.size < p+1
  · rw[if_pos h1]at h;cases h
  rw[if_neg h1]at h
  by_cases h2:byteAt s p / 16 < 1∨4 < byteAt s p / 16
  · rw[if_pos h2]at h;cases h
  rw[if_neg h2]at h
  by_cases h3:widthOf (byteAt s p / 16) < byteAt s p % 16
  · rw[if_pos h3]at h;cases h
  rw[if_neg h3]at h
  by_cases h4:deep=false
  · rw[if_pos h4]at h;cases h
  rw[if_neg h4]at h
  by_cases h5:s.size < p+1+byteAt s p % 16
  · rw[if_pos h5]at h;cases h
  rw[if_neg h5]at h
  by_cases h6:0 < byteAt s p % 16∧byteAt s (p+1)=0
  · rw[if_pos h6]at h;cases h
  rw[if_neg h6]at h
  by_cases h7:mostOf (byteAt s p / 16) < numAt s (p+1) (byteAt s p % 16)
  · rw[if_pos h7]at h;cases h
  rw[if_neg h7]at h
  refine⟨by omega,by omega,by omega,by omega,by simpa using h4,by omega,fun h0 he=>h6 ⟨h0,he⟩,by omega,?_⟩
  by_cases h8:byteAt s p / 16=1
  · rw[if_pos h8]at h
    injection h with hx hq
    exact .inl ⟨h8,hx.symm,hq.symm⟩
  rw[if_neg h8]at h
  by_cases h9:byteAt s p / 16=2
  · rw[if_pos h9]at h
    injection h with hx hq
    exact .inr (.inl ⟨h9,hx.symm,hq.symm⟩)
  rw[if_neg h9]at h
  by_cases h10:byteAt s p / 16=3
  · rw[if_pos h10]at h
    by_cases h11:s.size < p+1+byteAt s p % 16+numAt s (p+1) (byteAt s p % 16)
    · rw[if_pos h11]at h;cases h
    · rw[if_neg h11]at h
      injection h with hx hq
      exact .inr (.inr (.inl ⟨h10,by omega,hx.symm,hq.symm⟩))
  rw[if_neg h10]at h
  cases hm:manyW g (numAt s (p+1) (byteAt s p % 16)) (p+1+byteAt s p % 16) []with
  | ok l q'=>
    rw[hm,rowR]at h
    injection h with hx hq
    subst hq
    exact .inr (.inr (.inr ⟨by omega,l,rfl,hx.symm⟩))
  | bad p' e=>rw[hm,rowR]at h;cases h
theorem manyW_bad{f:Nat→DR S32}(hf:∀ q p e,f q = .bad p e→e=3∨e=4∨e=5):∀ (k q:Nat) (acc:List S32) (p e:Nat),manyW f k q acc = .bad p e→e=3∨e=4∨e=5
 | 0,q,acc,p,e,h=>by rw[manyW]at h;cases h
 | k+1,q,acc,p,e,h=>by
  rw[manyW]at h
  cases hq:f q with
  | ok x q'=>rw[hq]at h;exact manyW_bad hf k q' _ p e h
  | bad p' e'=>rw[hq]at h;injection h with h1 h2;subst h2;exact hf _ _ _ hq
theorem cellW_bad{s:ByteArray}{deep:Bool}{g:Nat→DR S32}(hg:deep=true→∀ q p e,g q = .bad p e→e=3∨e=4∨e=5){p:Nat}{p' e:Nat}(h:cellW s deep g p = .bad p' e):e=3∨e=4∨e=5:=by
 rw[cellW_eq]at h
 by_cases h1:s.size < p+1
 ·rw[if_pos h1]at h;injection h with h1 h2;omega
 rw[if_neg h1]at h
 by_cases h2:byteAt s p / 16 < 1∨4 < byteAt s p / 16
 ·rw[if_pos h2]at h;injection h with h1 h2;omega
 rw[if_neg h2]at h
 by_cases h3:widthOf (byteAt s p / 16) < byteAt s p % 16
 ·rw[if_pos h3]at h;injection h with h1 h2;omega
 rw[if_neg h3]at h
 by_cases h4:deep=false
 ·rw[if_pos h4]at h;injection h with h1 h2;omega
 rw[if_neg h4]at h
 by_cases h5:s.size < p+1+byteAt s p % 16
 ·rw[if_pos h5]at h;injection h with h1 h2;omega
 rw[if_neg h5]at h
 by_cases h6:0 < byteAt s p % 16∧byteAt s (p+1)=0
 ·rw[if_pos h6]at h;injection h with h1 h2;omega
 rw[if_neg h6]at h
 by_cases h7:mostOf (byteAt s p / 16) < numAt s (p+1) (byteAt s p % 16)
 ·rw[if_pos h7]at h;injection h with h1 h2;omega
 rw[if_neg h7]at h
 by_cases h8:byteAt s p / 16=1
 ·rw[if_pos h8]at h;cases h
 rw[if_neg h8]at h
 by_cases h9:byteAt s p / 16=2
 ·rw[if_pos h9]at h;cases h
 rw[if_neg h9]at h
 by_cases h10:byteAt s p / 16=3
 ·rw[if_pos h10]at h
  by_cases h11:s.size < p+1+byteAt s p % 16+numAt s (p+1) (byteAt s p % 16)
  ·rw[if_pos h11]at h;injection h with h1 h2;omega
  ·rw[if_neg h11]at h;cases h
 rw[if_neg h10]at h
 cases hm:manyW g (numAt s (p+1) (byteAt s p % 16)) (p+1+byteAt s p % 16) []with
 | ok l q'=>rw[hm,rowR]at h;cases h
 | bad p2 e2=>
  rw[hm,rowR]at h
  injection h with h1 h2
  subst h2
  exact manyW_bad (hg (by simpa using h4)) _ _ _ _ _ hm
theorem cellD_bad(s:ByteArray):∀ (d p p' e:Nat),cellD s d p = .bad p' e→e=3∨e=4∨e=5
 | 0,p,p',e,h=>cellW_bad (fun x=>by cases x) h
 | d+1,p,p',e,h=>cellW_bad (fun _ q p e hq=>cellD_bad s d q p e hq) h
structure Got(s:ByteArray)(d p:Nat)(x:S32)(q:Nat):Prop where
 lt:p < q
 le:q≤s.size
 wf:wfS x
 ok:okS d x=true
 enc:cut s p (q - p)=encS x
theorem manyW_ok{s:ByteArray}{d:Nat}{f:Nat→DR S32}(hf:∀ q x q',f q = .ok x q'→Got s d q x q'):∀ (k q:Nat) (acc l:List S32) (q':Nat),q≤s.size→manyW f k q acc = .ok l q'→
  ∃ l',l=acc++l'∧l'.length=k∧q≤q'∧q'≤s.size∧(∀ y∈l',wfS y∧okS d y=true)∧cut s q (q' - q)=encL l'
 | 0,q,acc,l,q',hq,h=>by
  rw[manyW]at h
  injection h with h1 h2
  subst h1;subst h2
  exact⟨[],by simp,rfl,Nat.le_refl _,hq,fun y hy=>by simp at hy,by rw[Nat.sub_self,cut_zero,encL]⟩
 | k+1,q,acc,l,q',hq,h=>by
  rw[manyW]at h
  cases hx:f q with
  | bad p' e'=>rw[hx]at h;cases h
  | ok x q1=>
   rw[hx]at h
   have g:=hf q x q1 hx
   obtain⟨l',rfl,hl,h1,h2,h3,h4⟩:=manyW_ok hf k q1 (acc ++ [x]) l q' g.le h
   have:=g.lt
   refine⟨x :: l',by simp,by simp[hl],by omega,h2,fun y hy=>?_,?_⟩
   ·rcases List.mem_cons.1 hy with rfl | hy
    ·exact⟨g.wf,g.ok⟩
    ·exact h3 y hy
   ·rw[show q' - q=(q1 - q)+(q' - q1)by omega,cut_append,g.enc,show q+(q1 - q)=q1 by omega,h4,encL]
theorem most_1:mostOf 1=9223372036854775807:=rfl
theorem most_2:mostOf 2=9223372036854775807:=rfl
theorem most_3:mostOf 3=65535:=rfl
theorem most_4:mostOf 4=4095:=rfl
theorem cellD_got(s:ByteArray)(hs:s.size≤140737488355328):∀ (d p:Nat) (x:S32) (q:Nat),cellD s d p = .ok x q→Got s d p x q
 | 0,p,x,q,h=>by
  obtain⟨_,_,_,_,e,_⟩:=cellW_ok h
  cases e
 | d+1,p,x,q,h=>by
  obtain⟨h1,h2,h3,h4,_,h5,h6,h7,hx⟩:=cellW_ok h
  have hsz:=Lib.size_eq s
  have hbes:=bes_num (s:=s) (p:=p+1) (byteAt s p % 16) (by omega) h6
  have hbl:=cut_len (s:=s) (p:=p+1) (n:=byteAt s p % 16) (by omega)
  generalize hk:numAt s (p+1) (byteAt s p % 16)=k at *
  have hhead:∀ j,byteAt s p / 16=j→cut s p (1+byteAt s p % 16)=headB j k:=by
   intro j hj
   rw[Nat.add_comm,cut_cons (by omega),headB,hbes,hbl]
   congr 2
   omega
  rcases hx with ⟨hj,rfl,rfl⟩ | ⟨hj,rfl,rfl⟩ | ⟨hj,hle,rfl,rfl⟩ | ⟨hj,l,hm,rfl⟩
  ·rw[hj,most_1]at h7
   refine⟨by omega,h5,?_,?_,?_⟩
   ·rw[wfS,wfL];exact⟨by omega,by omega,by decide,by decide,trivial⟩
   ·rw[okS,if_pos rfl];rfl
   ·rw[encS,if_pos rfl,if_neg (by omega),show p+1+byteAt s p % 16 - p=1+byteAt s p % 16 by omega,hhead 1 hj,Int.toNat_natCast]
  ·rw[hj,most_2]at h7
   refine⟨by omega,h5,?_,?_,?_⟩
   ·rw[wfS,wfL];exact⟨by omega,by omega,by decide,by decide,trivial⟩
   ·rw[okS,if_pos rfl];rfl
   ·rw[encS,if_pos rfl,if_pos (by omega),show p+1+byteAt s p % 16 - p=1+byteAt s p % 16 by omega,hhead 2 hj,show(-(-1 - (k:Int)+1)).toNat=k by omega]
  ·rw[hj,most_3]at h7
   have hxs:(s.extract (p+1+byteAt s p % 16) (p+1+byteAt s p % 16+k)).data.toList=cut s (p+1+byteAt s p % 16) k:=by rw[Lib.extract_data];unfold cut;congr 1;omega
   have hxl:(s.extract (p+1+byteAt s p % 16) (p+1+byteAt s p % 16+k)).size=k:=by rw[Lib.size_eq,hxs,cut_len (by omega)]
   refine⟨by omega,by omega,?_,?_,?_⟩
   ·rw[wfS,wfL,hxl];exact⟨by decide,by decide,by omega,by decide,trivial⟩
   ·rw[okS,if_neg (by decide),if_pos rfl,hxl];simp;omega
   ·rw[encS,if_neg (by decide),if_pos rfl,hxl,hxs,show p+1+byteAt s p % 16+k - p=(1+byteAt s p % 16)+k by omega,cut_append,hhead 3 hj,show p+(1+byteAt s p % 16)=p+1+byteAt s p % 16 by omega]
  ·rw[hj,most_4]at h7
   obtain⟨l',e,hl,g1,g2,g3,g4⟩:=manyW_ok (fun q x q' hq=>cellD_got s hs d q x q' hq) _ _ _ _ _ h5 hm
   rw[List.nil_append]at e
   subst e
   refine⟨by omega,g2,?_,?_,?_⟩
   ·rw[wfS];exact⟨by decide,by decide,by decide,by omega,wfL_of (fun y hy=>(g3 y hy).1)⟩
   ·rw[okS,if_neg (by decide),if_neg (by decide),if_pos rfl]
    have:l.all (okS d)=true:=List.all_eq_true.2 (fun y hy=>(g3 y hy).2)
    rw[this,decide_eq_true (show l.length≤4095 by omega)];rfl
   ·rw[encS,if_neg (by decide),if_neg (by decide),show q - p=(1+byteAt s p % 16)+(q - (p+1+byteAt s p % 16))by omega,cut_append,hhead 4 hj,show p+(1+byteAt s p % 16)=p+1+byteAt s p % 16 by omega,g4,hl]
end Go.Proofs.YtlmabbigfdbmbaaGreatDoor.PShelfNil
