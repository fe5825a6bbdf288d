/- Texts of one proof, joined: Gc, Gd, Ge, Gf, Gg, Gh, Gi, Gj, Go, Gp, Gq. -/
import Derived.Test.YtlmabbigfdbmbaaGreatDoorYd
import Derived.Test.YtlmabbigfdbmbaaGreatDoorYb
import Derived.BigQuiet
import Derived.Deep.CutRange
import Derived.Deep.DeepCutAuto
import Derived.Test.YtlmabbigfdbmbaaGreatDoorYa
import Derived.Deep.Heap
set_option linter.unusedSimpArgs false
set_option linter.unusedVariables false
namespace Go.Proofs.YtlmabbigfdbmbaaGreatDoor.Tape
open Go.RowKit Go.Proofs.YtlmabbigfdbmbaaGreatDoor.Ord Go.Proofs.YtlmabbigfdbmbaaGreatDoorW.PrintWords Go.Proofs.YtlmabbigfdbmbaaGreatDoor.Base
attribute [local irreducible] OpGives
attribute [local go_sem] rdl_const rdl_func rdl_global rdl_nil rdl_cons
def secCs:Option Sec→Array Value
 | none=>#[.int .i64 0,.int .i64 0,.int .i64 0,.bool false,.string (⟨#[]⟩:ByteArray)]
 | some x=>#[.int .i64 (x.life:Int),.int .i64 (x.record:Int),.int .i64 (x.part:Int),.bool x.last,.string ⟨x.s.toArray⟩]
def zSec:Obj:=.cells #[.int .i64 0,.int .i64 0,.int .i64 0,.bool false,.string (⟨#[]⟩:ByteArray)] 226
theorem five_put{W:World}{g:Nat}{ty:TypeId}{a b c d e:Value}(h:W.heap[g]? = some (.cells #[a,b,c,d,e] ty (0,0)))(a' b' c' d' e':Value) :
  (((((W.setCell ⟨g,0,none⟩ a').setCell ⟨g,1,none⟩ b').setCell ⟨g,2,none⟩ c').setCell ⟨g,3,none⟩ d').setCell ⟨g,4,none⟩ e').heap[g]? = some (.cells #[a',b',c',d',e'] ty (0,0)):=
 blk_put (cs:=#[a',b',c',d',e]) (blk_put (cs:=#[a',b',c',d,e]) (blk_put (cs:=#[a',b',c,d,e]) (blk_put (cs:=#[a',b,c,d,e]) (blk_put (cs:=#[a,b,c,d,e]) h 0 _ rfl) 1 _ rfl) 2 _ rfl) 3 _ rfl) 4 _ rfl
theorem five_below{B:Nat}{w W:World}{g:Nat}(h:Below B w W)(hB:B≤g)(a b c d e:Value):Below B w (((((W.setCell ⟨g,0,none⟩ a).setCell ⟨g,1,none⟩ b).setCell ⟨g,2,none⟩ c).setCell ⟨g,3,none⟩ d).setCell ⟨g,4,none⟩ e):=
 ((((h.setCell (p:=⟨g,0,none⟩) hB _).setCell (p:=⟨g,1,none⟩) hB _).setCell (p:=⟨g,2,none⟩) hB _).setCell (p:=⟨g,3,none⟩) hB _).setCell (p:=⟨g,4,none⟩) hB _
theorem results_says(tmps:Array Value)(W:World)(g:Nat)(a0 a1 a2 a3 a4 b:Value)(h2:tmps.getD 2 undef = .pointer (some ⟨g,0,none⟩))(h3:tmps.getD 3 undef=b)(hg:W.heap[g]? = some (.cells #[a0,a1,a2,a3,a4] 226 (0,0))) :
  (results Tryz.f190 tmps).run Tryz.prog W = .ok (.tuple #[.agg #[a0,a1,a2,a3,a4],b]) W:=by
 have h2':tmps[2]?.getD undef = .pointer (some ⟨g,0,none⟩):=by simpa using h2
 have h3':tmps[3]?.getD undef=b:=by simpa using h3
 have k0:W.cell? ⟨g,0,none⟩=some a0:=by rw[Lib.cell_of_heap hg];rfl
 have k1:W.cell? ⟨g,1,none⟩=some a1:=by rw[Lib.cell_of_heap hg];rfl
 have k2:W.cell? ⟨g,2,none⟩=some a2:=by rw[Lib.cell_of_heap hg];rfl
 have k3:W.cell? ⟨g,3,none⟩=some a3:=by rw[Lib.cell_of_heap hg];rfl
 have k4:W.cell? ⟨g,4,none⟩=some a4:=by rw[Lib.cell_of_heap hg];rfl
 simp[results,Tryz.results190,h2',h3',asAddr,k0,k1,k2,k3,k4,go_sem]
theorem dropWhile_nil{l:List UInt8}{c:UInt8} : l.dropWhile (· == c) = []↔∀ b∈l,b=c:=by
 induction l with
 | nil=>simp
 | cons x xs ih=>
  rw[List.dropWhile_cons]
  by_cases hx:x=c
  ·rw[if_pos (by simpa using hx),ih];simp[hx]
  ·rw[if_neg (by simpa using hx)];simp[hx]
theorem trimB_nil(l:List UInt8):Lib.trimB l 0 = []↔(l.any fun b=>b != 0)=false:=by
 unfold Lib.trimB Lib.trimLeftB Lib.trimRightB
 rw[dropWhile_nil,List.any_eq_false]
 constructor
 ·intro h b hb
  by_cases hz:b=0
  ·simp[hz]
  ·exfalso
   have hne:l.reverse.dropWhile (· == (0:UInt8))≠[]:=fun e=>hz (dropWhile_nil.1 e b (List.mem_reverse.2 hb))
   obtain⟨x,xs,hx⟩:=List.exists_cons_of_ne_nil hne
   have h0:=List.head_dropWhile_not (p:=(· == (0:UInt8))) (l:=l.reverse) hne
   have hm:x∈(l.reverse.dropWhile (· == (0:UInt8))).reverse:=by rw[hx];simp
   have:=h x hm
   simp only[hx,List.head_cons]at h0
   rw[this]at h0
   simp at h0
 ·intro h b hb
  have hm:b∈l:=by
   have:=(List.dropWhile_sublist (p:=(· == (0:UInt8))) (l:=l.reverse)).mem (List.mem_reverse.1 hb)
   exact List.mem_reverse.1 this
  have:=h b hm
  simpa using this
theorem and128(x:Nat)(h:x < 256):(bits .and .u8 (x:Int) 128 != 0)=decide (128≤x):=by
 have:∀ x:Fin 256,(bits .and .u8 ((x:Nat):Int) 128 != 0)=decide (128≤(x:Nat)):=by decide +kernel
 exact this ⟨x,h⟩
theorem andnot128(x:Nat)(h:x < 256):bits .andNot .i64 (x:Int) 128=((x % 128:Nat):Int):=by
 have:∀ x:Fin 256,bits .andNot .i64 ((x:Nat):Int) 128=(((x:Nat) % 128:Nat):Int):=by decide +kernel
 exact this ⟨x,h⟩
theorem cut_list(s:ByteArray)(a b:Nat):(s.extract a b).data.toList=(s.data.toList.drop a).take (b - a):=Lib.extract_data s a b
theorem number_cut(s:ByteArray)(hs:s.size=64)(a b:Nat)(hab:b≤a+6)(w:World) :
  Calls Tryz.prog 205 #[.string (s.extract a b)] w fun e w'=>e = .returned (.int .i64 (numL ((s.data.toList.drop a).take (b - a)):Int))∧w'=w:=by
 have h:=number_any (s.extract a b) (by rw[Lib.size_eq,cut_list,List.length_take];omega) w
 rw[cut_list]at h
 exact h
set_option maxHeartbeats 8000000 in
set_option maxRecDepth 100000 in
theorem says_any(s:ByteArray)(hs:s.size=64)(w:World) :
  Calls Tryz.prog 190 #[.string s] w fun e w'=>e = .returned (.tuple #[.agg (secCs (saysN s.data.toList)),.bool (saysN s.data.toList).isSome])∧NewMem w w':=by
 have hl:s.data.toList.length=64:=by rw[← Lib.size_eq];exact hs
 have hbyte:s[10]'(by omega)=s.data.toList.getD 10 0:=by
  rw[List.getD_eq_getElem?_getD,List.getElem?_eq_getElem (by omega)];rfl
 have h10:(s[10]'(by omega)).toNat=cntL s.data.toList:=by rw[hbyte];rfl
 have hc:cntL s.data.toList < 256:=UInt8.toNat_lt _
 have hn:=andnot128 _ hc
 have ha:=and128 _ hc
 obtain⟨W1,hW1⟩:∃ W1,W1=w.alloc (.cells #[.int .i64 0,.int .i64 0,.int .i64 0,.bool false,.string (⟨#[]⟩:ByteArray)] 226):=⟨_,rfl⟩
 have N1:=number_cut s hs 0 4 (by omega)
 have N2:=number_cut s hs 4 8 (by omega)
 have N3:=number_cut s hs 8 10 (by omega)
 have HN1:=Lib.hid N1
 have HN2:=Lib.hid N2
 have HN3:=Lib.hid N3
 generalize hcc:cntL s.data.toList=c at *
 have HCC:=Lib.hid hcc
 have HW1:=Lib.hid hW1
 clear N1 N2 N3 hbyte hW1 hcc hl
 go_enter Tryz.func190,Tryz.ntmps190
 go_wp2_with fail
 rw[← HW1.out]
 refine' wp_region_factsM (S:=(fun L W=>W=if L 14 then W1.drew.alloc zSec else W1.drew)) (fun _ _ _=>True) [eqM _,eqM (.string (s.extract 0 4)),eqM (.int .i64 (numL ((s.data.toList.drop 0).take (4 - 0)):Int)),eqM _,eqM (.string (s.extract 4 8)),eqM (.int .i64 (numL ((s.data.toList.drop 4).take (8 - 4)):Int)),eqM _,eqM (.string (s.extract 8 10)),eqM (.int .i64 (numL ((s.data.toList.drop 8).take (10 - 8)):Int)),eqM _,eqM (.int .u8 (c:Int)),eqM _,eqM (.bool (decide (128≤c))),eqM (.agg #[.int .i64 (numL ((s.data.toList.drop 0).take (4 - 0)):Int),.int .i64 (numL ((s.data.toList.drop 4).take (8 - 4)):Int),.int .i64 (numL ((s.data.toList.drop 8).take (10 - 8)):Int),.bool (decide (128≤c)),.string (⟨#[]⟩:ByteArray)]),eqM (.pointer (some ⟨W1.heap.size,0,none⟩))] (by kernel_rfl) (by kernel_rfl) ?hst ?h0 (Ord.stepsM_cons ?s0 (Ord.stepsM_cons ?s1 (Ord.stepsM_cons ?s2 (Ord.stepsM_cons ?s3 (Ord.stepsM_cons ?s4 (Ord.stepsM_cons ?s5 (Ord.stepsM_cons ?s6 (Ord.stepsM_cons ?s7 (Ord.stepsM_cons ?s8 (Ord.stepsM_cons ?s9 (Ord.stepsM_cons ?s10 (Ord.stepsM_cons ?s11 (Ord.stepsM_cons ?s12 (Ord.stepsM_cons ?s13 (Ord.stepsM_cons ?s14 (Ord.stepsM_nil)))))))))))))))) ?fin
 case s0=>
  intro g W L hL hSW hd
  try simp only[Nat.zero_add,Nat.reduceAdd]at hd ⊢
  with_reducible refine OpGives.pre_reads [] 69 ?_ ?_ ?_
  ·rfl
  ·kernel_rfl
  simp only[List.map_cons,List.map_nil]
  refine OpGives.val (w':=W) ?_ ⟨trivial,rfl,hSW⟩
  go_simp
  try with_reducible rfl
 case s1=>
  intro g W L hL hSW hd
  try simp only[Nat.zero_add,Nat.reduceAdd]at hd ⊢
  have h0:g 0=_:=hd 0 (by decide) (by kernel_rfl)
  with_reducible refine OpGives.pre_reads [(14,0)] 69 ?_ ?_ ?_
  ·rfl
  ·kernel_rfl
  simp only[List.map_cons,List.map_nil]
  refine OpGives.val (w':=W) ?_ ⟨trivial,rfl,hSW⟩
  go_simp
  try with_reducible rfl
 case s2=>
  intro g W L hL hSW hd
  try simp only[Nat.zero_add,Nat.reduceAdd]at hd ⊢
  have h1:g 1=_:=hd 1 (by decide) (by kernel_rfl)
  with_reducible refine OpGives.pre_reads [(15,1)] 69 ?_ ?_ ?_
  ·rfl
  ·kernel_rfl
  simp only[List.map_cons,List.map_nil]
  refine OpGives.call (f:=205) (args:=#[.string (s.extract 0 4)]) (w':=W) (by go_simp) ((HN1.out W).mono fun e W' ⟨he,hb⟩=>⟨_,he,trivial,rfl,by rw[hb];exact hSW⟩)
 case s3=>
  intro g W L hL hSW hd
  try simp only[Nat.zero_add,Nat.reduceAdd]at hd ⊢
  with_reducible refine OpGives.pre_reads [] 69 ?_ ?_ ?_
  ·rfl
  ·kernel_rfl
  simp only[List.map_cons,List.map_nil]
  refine OpGives.val (w':=W) ?_ ⟨trivial,rfl,hSW⟩
  go_simp
  try with_reducible rfl
 case s4=>
  intro g W L hL hSW hd
  try simp only[Nat.zero_add,Nat.reduceAdd]at hd ⊢
  have h3:g 3=_:=hd 3 (by decide) (by kernel_rfl)
  with_reducible refine OpGives.pre_reads [(17,3)] 69 ?_ ?_ ?_
  ·rfl
  ·kernel_rfl
  simp only[List.map_cons,List.map_nil]
  refine OpGives.val (w':=W) ?_ ⟨trivial,rfl,hSW⟩
  go_simp
  try with_reducible rfl
 case s5=>
  intro g W L hL hSW hd
  try simp only[Nat.zero_add,Nat.reduceAdd]at hd ⊢
  have h4:g 4=_:=hd 4 (by decide) (by kernel_rfl)
  with_reducible refine OpGives.pre_reads [(18,4)] 69 ?_ ?_ ?_
  ·rfl
  ·kernel_rfl
  simp only[List.map_cons,List.map_nil]
  refine OpGives.call (f:=205) (args:=#[.string (s.extract 4 8)]) (w':=W) (by go_simp) ((HN2.out W).mono fun e W' ⟨he,hb⟩=>⟨_,he,trivial,rfl,by rw[hb];exact hSW⟩)
 case s6=>
  intro g W L hL hSW hd
  try simp only[Nat.zero_add,Nat.reduceAdd]at hd ⊢
  with_reducible refine OpGives.pre_reads [] 69 ?_ ?_ ?_
  ·rfl
  ·kernel_rfl
  simp only[List.map_cons,List.map_nil]
  refine OpGives.val (w':=W) ?_ ⟨trivial,rfl,hSW⟩
  go_simp
  try with_reducible rfl
 case s7=>
  intro g W L hL hSW hd
  try simp only[Nat.zero_add,Nat.reduceAdd]at hd ⊢
  have h6:g 6=_:=hd 6 (by decide) (by kernel_rfl)
  with_reducible refine OpGives.pre_reads [(20,6)] 69 ?_ ?_ ?_
  ·rfl
  ·kernel_rfl
  simp only[List.map_cons,List.map_nil]
  refine OpGives.val (w':=W) ?_ ⟨trivial,rfl,hSW⟩
  go_simp
  try with_reducible rfl
 case s8=>
  intro g W L hL hSW hd
  try simp only[Nat.zero_add,Nat.reduceAdd]at hd ⊢
  have h7:g 7=_:=hd 7 (by decide) (by kernel_rfl)
  with_reducible refine OpGives.pre_reads [(21,7)] 69 ?_ ?_ ?_
  ·rfl
  ·kernel_rfl
  simp only[List.map_cons,List.map_nil]
  refine OpGives.call (f:=205) (args:=#[.string (s.extract 8 10)]) (w':=W) (by go_simp) ((HN3.out W).mono fun e W' ⟨he,hb⟩=>⟨_,he,trivial,rfl,by rw[hb];exact hSW⟩)
 case s9=>
  intro g W L hL hSW hd
  try simp only[Nat.zero_add,Nat.reduceAdd]at hd ⊢
  with_reducible refine OpGives.pre_reads [] 69 ?_ ?_ ?_
  ·rfl
  ·kernel_rfl
  simp only[List.map_cons,List.map_nil]
  refine OpGives.val (w':=W) ?_ ⟨trivial,rfl,hSW⟩
  go_simp
  try with_reducible rfl
 case s10=>
  intro g W L hL hSW hd
  try simp only[Nat.zero_add,Nat.reduceAdd]at hd ⊢
  have h9:g 9=_:=hd 9 (by decide) (by kernel_rfl)
  with_reducible refine OpGives.pre_reads [(23,9)] 69 ?_ ?_ ?_
  ·rfl
  ·kernel_rfl
  simp only[List.map_cons,List.map_nil]
  refine OpGives.val (w':=W) ?_ ⟨trivial,rfl,hSW⟩
  go_simp
  try with_reducible rfl
 case s11=>
  intro g W L hL hSW hd
  try simp only[Nat.zero_add,Nat.reduceAdd]at hd ⊢
  have h10:g 10=_:=hd 10 (by decide) (by kernel_rfl)
  with_reducible refine OpGives.pre_reads [(24,10)] 69 ?_ ?_ ?_
  ·rfl
  ·kernel_rfl
  simp only[List.map_cons,List.map_nil]
  refine OpGives.val (w':=W) ?_ ⟨trivial,rfl,hSW⟩
  go_simp
  try with_reducible rfl
 case s12=>
  intro g W L hL hSW hd
  try simp only[Nat.zero_add,Nat.reduceAdd]at hd ⊢
  have h11:g 11=_:=hd 11 (by decide) (by kernel_rfl)
  with_reducible refine OpGives.pre_reads [(25,11)] 69 ?_ ?_ ?_
  ·rfl
  ·kernel_rfl
  simp only[List.map_cons,List.map_nil]
  refine OpGives.val (w':=W) ?_ ⟨trivial,rfl,hSW⟩
  go_simp
  try with_reducible rfl
 case s13=>
  intro g W L hL hSW hd
  try simp only[Nat.zero_add,Nat.reduceAdd]at hd ⊢
  have h2:g 2=_:=hd 2 (by decide) (by kernel_rfl)
  have h5:g 5=_:=hd 5 (by decide) (by kernel_rfl)
  have h8:g 8=_:=hd 8 (by decide) (by kernel_rfl)
  have h12:g 12=_:=hd 12 (by decide) (by kernel_rfl)
  with_reducible refine OpGives.pre_reads [(16,2),(19,5),(22,8),(26,12)] 69 ?_ ?_ ?_
  ·rfl
  ·kernel_rfl
  simp only[List.map_cons,List.map_nil]
  refine OpGives.val (w':=W) ?_ ⟨trivial,rfl,hSW⟩
  go_simp
  try with_reducible rfl
 case s14=>
  intro g W L hL hSW hd
  try simp only[Nat.zero_add,Nat.reduceAdd]at hd ⊢
  with_reducible refine OpGives.pre_reads [] 69 ?_ ?_ ?_
  ·rfl
  ·kernel_rfl
  simp only[List.map_cons,List.map_nil]
  rw[hL,if_neg (by decide)]at hSW;subst hSW;refine OpGives.val (v:=.pointer (some ⟨W1.heap.size,0,none⟩)) (w':=W1.drew.alloc zSec) ?_ ⟨trivial,rfl,by simp⟩;unfold zSec;go_simp
 case hst=>
  refine fun i j v w w' _ h _=>st_of (R:=fun _ _=>True) ?_ i v w w' h trivial
  repeat' first
   | exact trivial
   | with_reducible refine StL.eq ?_
 case h0=>rfl
 case fin=>
  intro v W L hL hSW hf
  have h13:v 13=_:=hf 13 (Nat.lt_of_lt_of_eq (by decide:13 < 15) rfl)
  have h14:v 14=_:=hf 14 (Nat.lt_of_lt_of_eq (by decide:14 < 15) rfl)
  clear hf
  rw[hL 14 (Nat.lt_of_lt_of_eq (by decide:14 < 15) rfl),if_pos rfl]at hSW
  subst hSW
  generalize hF:Ord.pre _ _ v _=F
  rw[Ord.pre_lit [some 14,some 15,some 16,some 17,some 18,some 19,some 20,some 21,some 22,some 23,some 24,some 25,some 26,some 27,some 5]
   (by kernel_rfl)]at hF
  simp only[Ord.puts,Nat.zero_add,Nat.reduceAdd]at hF
  subst hF
  rw[h13,h14]
  clear h13 h14 hL
  unfold zSec
  refine any_one (i:=15) (by kernel_rfl) ?_
  refine wpOp_skip (w':=W1.drew.alloc (.cells #[.int .i64 (numL ((s.data.toList.drop 0).take (4 - 0)):Int),.int .i64 (numL ((s.data.toList.drop 4).take (8 - 4)):Int),.int .i64 (numL ((s.data.toList.drop 8).take (10 - 8)):Int),.bool (decide (128≤c)),.string (⟨#[]⟩:ByteArray)] 226)) rfl rfl (by go_simp) ?_
  refine wpAny_done (by kernel_rfl) ?_ _
  try simp only[List.getElem_toArray,List.getElem_cons_succ,List.getElem_cons_zero]
  go_frame
  obtain⟨L0,hL0⟩:∃ L0,L0=numL ((s.data.toList.drop 0).take (4 - 0)):=⟨_,rfl⟩
  obtain⟨R0,hR0⟩:∃ R0,R0=numL ((s.data.toList.drop 4).take (8 - 4)):=⟨_,rfl⟩
  obtain⟨P0,hP0⟩:∃ P0,P0=numL ((s.data.toList.drop 8).take (10 - 8)):=⟨_,rfl⟩
  obtain⟨bl,hbl⟩:∃ bl,bl=decide (128≤c):=⟨_,rfl⟩
  rw[← hL0,← hR0,← hP0,← hbl]
  obtain⟨X,hX⟩:∃ X,X=W1.drew.alloc (.cells #[.int .i64 (L0:Int),.int .i64 (R0:Int),.int .i64 (P0:Int),.bool bl,.string (⟨#[]⟩:ByteArray)] 226):=⟨_,rfl⟩
  rw[← hX]
  have hg:X.heap[W1.heap.size]? = some (.cells #[.int .i64 (L0:Int),.int .i64 (R0:Int),.int .i64 (P0:Int),.bool bl,.string (⟨#[]⟩:ByteArray)] 226 (0,0)):=by rw[hX];exact heap_alloc_last W1.drew _
  have hn0:NewMem w X:=by rw[hX,HW1.out];exact((NewMem.alloc w _).trans (bdN' (n:=1) (Below.refl _ _))).trans (NewMem.alloc _ _)
  have hr:X.heap[w.heap.size]? = some (.cells #[.int .i64 0,.int .i64 0,.int .i64 0,.bool false,.string (⟨#[]⟩:ByteArray)] 226 (0,0)):=by
   rw[hX,Lib.alloc_old _ _ _ (by rw[HW1.out];simp[World.drew])]
   show W1.heap[w.heap.size]? = _
   rw[HW1.out];exact heap_alloc_last w _
  have hne:w.heap.size < W1.heap.size:=by rw[HW1.out];simp
  have HX:=Lib.hid hX
  have HG:=Lib.hid hg
  have HN0:=Lib.hid hn0
  have HR:=Lib.hid hr
  have HNE:=Lib.hid hne
  have HLRP:=Lib.hid (And.intro hL0 (And.intro hR0 hP0))
  have HBL:=Lib.hid hbl
  have HNN:=Lib.hid hn
  have HAA:=Lib.hid ha
  have HSS:=Lib.hid hs
  clear hX hg hn0 hr hne hL0 hR0 hP0 hbl hn ha HX HN1 HN2 HN3
  have k0:X.cell? ⟨W1.heap.size,0,none⟩=some (.int .i64 (L0:Int)):=by rw[Lib.cell_of_heap HG.out];rfl
  have k3:X.cell? ⟨W1.heap.size,3,none⟩=some (.bool bl):=by rw[Lib.cell_of_heap HG.out];rfl
  go_upto_region 5 with (fail)
  go_cut [28] (fun b wc=>b = .bool (decide (L0=0∨51 < c % 128∨(c < 128∧c % 128 < 51)))∧wc=X)
  case first=>
   by_cases h1:L0=0
   ·have e:=Lib.hid (show decide (L0=0∨51 < c % 128∨(c < 128∧c % 128 < 51))=true from by simp[h1])
    have g1:((L0:Int) == 0)=true:=by rw[beq_iff_eq];omega
    clear h1
    go_wp2_with fail
    go_meet
    case rel=>first | (refine⟨?_,rfl⟩;rw[e.out];done) | (refine⟨?_,rfl⟩;rw[e.out];simp;omega)
   ·have g1:((L0:Int) == 0)=false:=by rw[beq_eq_false_iff_ne];omega
    by_cases h2:51 < c % 128
    ·have e:=Lib.hid (show decide (L0=0∨51 < c % 128∨(c < 128∧c % 128 < 51))=true from by simp[h2])
     have g2:(51:Int) < (c:Int) % 128:=by omega
     clear h1 h2
     go_wp2_with fail
     go_meet
     case rel=>first | (refine⟨?_,rfl⟩;rw[e.out];done) | (refine⟨?_,rfl⟩;rw[e.out];simp;omega)
    ·have g2:(c:Int) % 128≤51:=by omega
     cases hb2:bl with
     | true=>
      rw[hb2]at k3
      have h128:128≤c:=of_decide_eq_true (by rw[← HBL.out,hb2])
      have e:=Lib.hid (show decide (L0=0∨51 < c % 128∨(c < 128∧c % 128 < 51))=false from by simp[h1];omega)
      clear h1 h2 hb2 h128
      go_wp2_with fail
      go_meet
      case rel=>first | (refine⟨?_,rfl⟩;rw[e.out];done) | (refine⟨?_,rfl⟩;rw[e.out];simp;omega)
     | false=>
      rw[hb2]at k3
      have h128:¬ 128≤c:=of_decide_eq_false (by rw[← HBL.out,hb2])
      by_cases h3:c % 128 < 51
      ·have e:=Lib.hid (show decide (L0=0∨51 < c % 128∨(c < 128∧c % 128 < 51))=true from by simp;omega)
       have g3:(c:Int) % 128 < 51:=by omega
       clear h1 h2 hb2 h128 h3
       go_wp2_with fail
       go_meet
       case rel=>first | (refine⟨?_,rfl⟩;rw[e.out];done) | (refine⟨?_,rfl⟩;rw[e.out];simp;omega)
      ·have e:=Lib.hid (show decide (L0=0∨51 < c % 128∨(c < 128∧c % 128 < 51))=false from by simp[h1];omega)
       have g3:¬ (c:Int) % 128 < 51:=by omega
       clear h1 h2 hb2 h128 h3
       go_wp2_with fail
       go_meet
       case rel=>first | (refine⟨?_,rfl⟩;rw[e.out];done) | (refine⟨?_,rfl⟩;rw[e.out];simp;omega)
  case rest=>
   obtain⟨rfl,rfl⟩:=hcut
   obtain⟨hL0,hR0,hP0⟩:=HLRP.out
   obtain⟨ll,hll⟩:∃ ll,ll=s.data.toList:=⟨_,rfl⟩
   have hlen:ll.length=64:=by rw[hll,← Lib.size_eq];exact HSS.out
   have e4:numL (ll.take 4)=L0:=by rw[hL0,hll];rfl
   have f0:=Lib.frozen_of_heap HR.out 0
   have f1:=Lib.frozen_of_heap HR.out 1
   have f2:=Lib.frozen_of_heap HR.out 2
   have f3:=Lib.frozen_of_heap HR.out 3
   have f4:=Lib.frozen_of_heap HR.out 4
   have z0:wc.cell? ⟨w.heap.size,0,none⟩=some (.int .i64 0):=by rw[Lib.cell_of_heap HR.out];rfl
   have z1:wc.cell? ⟨w.heap.size,1,none⟩=some (.int .i64 0):=by rw[Lib.cell_of_heap HR.out];rfl
   have z2:wc.cell? ⟨w.heap.size,2,none⟩=some (.int .i64 0):=by rw[Lib.cell_of_heap HR.out];rfl
   have z3:wc.cell? ⟨w.heap.size,3,none⟩=some (.bool false):=by rw[Lib.cell_of_heap HR.out];rfl
   have z4:wc.cell? ⟨w.heap.size,4,none⟩=some (.string (⟨#[]⟩:ByteArray)):=by rw[Lib.cell_of_heap HR.out];rfl
   by_cases hbad:L0=0∨51 < c % 128∨(c < 128∧c % 128 < 51)
   ·have hsn:saysN ll=none:=by unfold saysN;rw[if_pos (by rw[e4,hll,HCC.out];exact hbad)]
    rw[decide_eq_true hbad]
    rw[hll]at hsn
    have HSN:=Lib.hid hsn
    clear hL0 hR0 hP0 hll hlen e4 hsn hbad h10
    go_wp2_with fail
    refine bodyPost_ret (results_says _ _ w.heap.size (.int .i64 0) (.int .i64 0) (.int .i64 0) (.bool false) (.string (⟨#[]⟩:ByteArray)) (.bool false) rfl rfl (five_put HR.out _ _ _ _ _)) rfl ?_
    rw[HSN.out]
    exact⟨rfl,five_below HN0.out (Nat.le_refl _) _ _ _ _ _⟩
   ·have hc51:c % 128≤51:=by omega
    have hdt:(ll.take 62).drop (11+c % 128)=(ll.drop (11+c % 128)).take (62 - (11+c % 128)):=by rw[List.drop_take]
    obtain⟨n,hnn⟩:∃ n,n=c % 128:=⟨_,rfl⟩
    have hz1:(s.extract (11+n) 62).data.toList=(ll.drop (11+n)).take (62 - (11+n)):=by rw[cut_list,hll]
    have htr:∀ W,Calls Tryz.prog 206 #[.string (s.extract (11+n) 62),.string ⟨#[0]⟩] W fun e w'=>e = .returned (.string ⟨(Lib.trimB ((ll.drop (11+n)).take (62 - (11+n))) 0).toArray⟩)∧∃ m,w'=W.drewN m:=fun W=>by
     have h:=Tryz.strings_Trim_one (s.extract (11+n) 62) 0 (by decide) W (by rw[Lib.size_eq,hz1,List.length_take,List.length_drop,hlen];omega)
     rw[hz1]at h
     exact h.mono fun e w' ⟨he,hw⟩=>⟨he,hw.elim (fun x=>⟨0,x⟩) (fun x=>⟨1,x⟩)⟩
    have hwg:∀ W,Calls Tryz.prog 164 #[.string (s.extract 0 62)] W fun e w'=>e = .returned (.int .i64 (weighL (ll.take 62):Int))∧∃ m,w'=W.drewN m:=fun W=>by
     have h1:(s.extract 0 62).data.toList=ll.take 62:=by rw[cut_list,hll];rfl
     have hsz:(s.extract 0 62).size≤1000:=by rw[Lib.size_eq,h1,List.length_take,hlen];omega
     have h2:=weigh_eq (s.extract 0 62) hsz W
     rw[h1]at h2
     exact h2.mono fun e w' ⟨he,hw⟩=>⟨he,0,hw⟩
    have hnm:∀ W,Calls Tryz.prog 205 #[.string (s.extract 62 64)] W fun e w'=>e = .returned (.int .i64 (numL (ll.drop 62):Int))∧w'=W:=fun W=>by
     have h:=number_cut s HSS.out 62 64 (by omega) W
     rw[← hll,List.take_of_length_le (by rw[List.length_drop,hlen];omega)]at h
     exact h
    obtain⟨q,hq⟩:∃ q:ByteArray,q=⟨(Lib.trimB ((ll.drop (11+n)).take (62 - (11+n))) 0).toArray⟩:=⟨_,rfl⟩
    have hql:q.toList=Lib.trimB ((ll.drop (11+n)).take (62 - (11+n))) 0:=by rw[Lib.toList_data,hq]
    simp only[← hq]at htr
    rw[decide_eq_false hbad]
    have hcn:(c:Int) % 128=(n:Int):=by omega
    rw[hcn]
    have HT:=Lib.hid htr
    have HWG:=Lib.hid hwg
    have HNM:=Lib.hid hnm
    have hn51:n≤51:=by omega
    by_cases hnz:((ll.drop (11+n)).take (62 - (11+n))).any (fun b=>b != 0)=true
    ·have q1:¬ q.toList = []:=by rw[hql];intro h;rw[trimB_nil]at h;rw[h]at hnz;cases hnz
     have q2:q.toList.isEmpty=false:=by rw[List.isEmpty_eq_false_iff];exact q1
     have hsn:saysN s.data.toList=none:=by
      rw[← hll];unfold saysN
      have hcc:cntL ll=c:=by rw[hll];exact HCC.out
      rw[hcc,e4,if_neg hbad,hdt,← hnn,if_pos (.inl hnz)]
     have HSN:=Lib.hid hsn
     clear hL0 hR0 hP0 hll hlen e4 hsn hbad h10 hdt hnn hz1 htr hwg hnm hq hql hcn hnz hc51
     go_wp2_with fail
     go_quiet ((first | (go_at_call 206;exact Calls.quiet_of (HT.out _)) | (go_at_call 164;exact Calls.quiet_of (HWG.out _)) | (go_at_call 205;exact Calls.quiet_of_same (HNM.out _))))
     go_wp2_with fail
     have HRn:(wc.drewN nq).heap[w.heap.size]? = _:=HR.out
     refine bodyPost_ret (results_says _ _ w.heap.size (.int .i64 0) (.int .i64 0) (.int .i64 0) (.bool false) (.string (⟨#[]⟩:ByteArray)) (.bool false) rfl rfl (five_put HRn _ _ _ _ _)) rfl ?_
     rw[HSN.out]
     exact⟨rfl,five_below (HN0.out.trans (bdN' (Below.refl _ _))) (Nat.le_refl _) _ _ _ _ _⟩
    ·have hza:((ll.drop (11+n)).take (62 - (11+n))).any (fun b=>b != 0)=false:=by simpa using hnz
     have q1:q.toList = []:=by rw[hql];exact(trimB_nil _).2 hza
     have q2:(!q.toList.isEmpty)=false:=by rw[q1];rfl
     have hcc:cntL ll=c:=by rw[hll];exact HCC.out
     by_cases hw:weighL (ll.take 62)=numL (ll.drop 62)
     ·have hsn:saysN s.data.toList=some ⟨L0,R0,P0,bl,(ll.drop 11).take n⟩:=by
       rw[← hll];unfold saysN
       have hR:numL ((ll.drop 4).take 4)=R0:=by rw[hR0,hll]
       have hP:numL ((ll.drop 8).take 2)=P0:=by rw[hP0,hll]
       rw[hcc,e4,if_neg hbad,hdt,← hnn,if_neg (by rintro(h | h);exact hnz h;exact h hw),hR,hP,HBL.out]
      have hxs:s.extract 11 (11+n)=⟨((ll.drop 11).take n).toArray⟩:=by rw[Lib.extract_eq,hll,show 11+n - 11=n by omega]
      have g1:((weighL (ll.take 62):Int) != (numL (ll.drop 62):Int))=false:=by rw[hw];simp
      have HSN:=Lib.hid hsn
      have HXS:=Lib.hid hxs
      have b0:=HG.out
      have HNE2:=HNE.out
      clear hL0 hR0 hP0 hll hlen e4 hsn hbad h10 hdt hnn hz1 htr hwg hnm hq hql hcn hnz hc51 hza hcc hw hxs
      go_wp2_with fail
      go_quiet ((first | (go_at_call 206;exact Calls.quiet_of (HT.out _)) | (go_at_call 164;exact Calls.quiet_of (HWG.out _)) | (go_at_call 205;exact Calls.quiet_of_same (HNM.out _))))
      have kf:wc.frozen? ⟨W1.heap.size,4,none⟩=false:=Lib.frozen_of_heap HG.out 4
      have k1:wc.cell? ⟨W1.heap.size,1,none⟩=some (.int .i64 (R0:Int)):=by rw[Lib.cell_of_heap HG.out];rfl
      have k2:wc.cell? ⟨W1.heap.size,2,none⟩=some (.int .i64 (P0:Int)):=by rw[Lib.cell_of_heap HG.out];rfl
      have k4:wc.cell? ⟨W1.heap.size,4,none⟩=some (.string (⟨#[]⟩:ByteArray)):=by rw[Lib.cell_of_heap HG.out];rfl
      have hne3:¬ W1.heap.size=w.heap.size:=by omega
      go_wp2_with fail
      have HRn:((wc.drewN nq).setCell ⟨W1.heap.size,4,none⟩ (.string (s.extract 11 (11+n)))).heap[w.heap.size]? = some (.cells #[.int .i64 0,.int .i64 0,.int .i64 0,.bool false,.string (⟨#[]⟩:ByteArray)] 226 (0,0)):=by
       rw[Below.heap_setCell _ _ _ _ (by simp;omega)];exact HR.out
      refine bodyPost_ret (results_says _ _ w.heap.size (.int .i64 (L0:Int)) (.int .i64 (R0:Int)) (.int .i64 (P0:Int)) (.bool bl) (.string (s.extract 11 (11+n))) (.bool true) rfl rfl (five_put HRn _ _ _ _ _)) rfl ?_
      rw[HSN.out]
      refine⟨by rw[HXS.out];rfl,five_below ((HN0.out.trans (bdN' (Below.refl _ _))).setCell (p:=⟨W1.heap.size,4,none⟩) (Nat.le_of_lt HNE.out) _) (Nat.le_refl _) _ _ _ _ _⟩
     ·have hsn:saysN s.data.toList=none:=by
       rw[← hll];unfold saysN
       rw[hcc,e4,if_neg hbad,hdt,← hnn,if_pos (.inr hw)]
      have g1:((weighL (ll.take 62):Int) != (numL (ll.drop 62):Int))=true:=by rw[bne_iff_ne];omega
      have HSN:=Lib.hid hsn
      clear hL0 hR0 hP0 hll hlen e4 hsn hbad h10 hdt hnn hz1 htr hwg hnm hq hql hcn hnz hc51 hza hcc hw
      go_wp2_with fail
      go_quiet ((first | (go_at_call 206;exact Calls.quiet_of (HT.out _)) | (go_at_call 164;exact Calls.quiet_of (HWG.out _)) | (go_at_call 205;exact Calls.quiet_of_same (HNM.out _))))
      go_wp2_with fail
      have HRn:(wc.drewN nq).heap[w.heap.size]? = _:=HR.out
      refine bodyPost_ret (results_says _ _ w.heap.size (.int .i64 0) (.int .i64 0) (.int .i64 0) (.bool false) (.string (⟨#[]⟩:ByteArray)) (.bool false) rfl rfl (five_put HRn _ _ _ _ _)) rfl ?_
      rw[HSN.out]
      exact⟨rfl,five_below (HN0.out.trans (bdN' (Below.refl _ _))) (Nat.le_refl _) _ _ _ _ _⟩
end Go.Proofs.YtlmabbigfdbmbaaGreatDoor.Tape
namespace Go.Proofs.YtlmabbigfdbmbaaGreatDoor.Tape
open Go.RowKit Go.Proofs.YtlmabbigfdbmbaaGreatDoor.Ord Go.Proofs.YtlmabbigfdbmbaaGreatDoorW.PrintWords Go.Proofs.YtlmabbigfdbmbaaGreatDoor.Base
attribute [local irreducible] OpGives
attribute [local go_sem] rdl_const rdl_func rdl_global rdl_nil rdl_cons
def RowB(B:Nat)(W:World)(v:Value)(l:List UInt8):Prop:=W.ownsRow B 5 1 v l.length (Lib.byteCells l)
theorem RowB.nil(B:Nat)(W:World):RowB B W (.slice none 0 0) []:=World.ownsRow_nil _ _ _ _
theorem put_row{B:Nat}{W:World}{v:Value}{l:List UInt8}(h:RowB B W v l)(hB:B≤W.heap.size)(hl:l.length≤1000)(n k:Nat)(hk:k≤7)(hn:n < 9223372036854775808) :
  Calls Tryz.prog 163 #[v,.int .i64 (n:Int),.int .i64 (k:Int)] W fun e w'=>∃ v',e = .returned v'∧RowB B w' v' (l++beL k n)∧Below B W w':=put_any l v B n k W h hB hl hk hn
theorem RowB.string{B:Nat}{W:World}{v:Value}{l:List UInt8}(h:RowB B W v l):(convert 129 9 v).run Tryz.prog W = .ok (.string ⟨l.toArray⟩) W:=by
 unfold RowB at h
 rw[← Drum.nums_ints]at h
 have:=own_string (P:=Tryz.prog) (src:=129) (dst:=9) (e:=5) Tryz.underlying129 Tryz.underlying5 Tryz.underlying9 h
 rw[str_ints]at this
 exact this
theorem RowB.slice{B:Nat}{W:World}{v:Value}{l:List UInt8}(h:RowB B W v l):∃ a c,v = .slice a l.length c:=by
 rcases h.2 with ⟨rfl,h0⟩ | ⟨g,cap,cur,rfl,_⟩
 ·exact⟨none,0,by rw[h0]⟩
 ·exact⟨_,cap,rfl⟩
theorem RowB.below{B:Nat}{W W':World}{v:Value}{l:List UInt8}(h:RowB B W v l)(hb:Below W.heap.size W W'):RowB B W' v l:=by
 refine⟨h.1,?_⟩
 rcases h.2 with hn | ⟨g,cap,cur,rfl,hbg,hg,rest⟩
 ·exact .inl hn
 ·exact .inr ⟨g,cap,cur,rfl,hbg,(hb.block g (Array.getElem?_eq_some_iff.1 hg).1).trans hg,rest⟩
def anyM:Value→World→Prop:=fun _ _=>True
theorem StL.any{R:World→World→Prop}{fs:List (Value→World→Prop)}(h:StL R fs):StL R (anyM :: fs):=⟨fun _ _ _ _ _=>trivial,h⟩
def SLay(B:Nat)(w1:World)(A1 A2 A3:List UInt8)(L:Nat→Bool)(g:Nat→Value)(W:World):Prop:=
 Below B w1 W∧B≤W.heap.size∧(L 2=true→L 5=false→RowB B W (g 2) A1)∧(L 5=true→L 8=false→RowB B W (g 5) A2)∧(L 8=true→RowB B W (g 8) A3)
theorem SLay.keep{B:Nat}{w1 W:World}{A1 A2 A3:List UInt8}{L:Nat→Bool}{g:Nat→Value}(h:SLay B w1 A1 A2 A3 L g W)(i:Nat)(v:Value)(h2:i≠2)(h5:i≠5)(h8:i≠8) :
  SLay B w1 A1 A2 A3 (fun k=>if k=i then true else L k) (upd g i v) W:=by
 obtain⟨a,b,c,d,e⟩:=h
 refine⟨a,b,fun x y=>?_,fun x y=>?_,fun x=>?_⟩
 ·simp only[if_neg (Ne.symm h2)]at x;simp only[if_neg (Ne.symm h5)]at y;rw[upd_other _ _ (Ne.symm h2)];exact c x y
 ·simp only[if_neg (Ne.symm h5)]at x;simp only[if_neg (Ne.symm h8)]at y;rw[upd_other _ _ (Ne.symm h5)];exact d x y
 ·simp only[if_neg (Ne.symm h8)]at x;rw[upd_other _ _ (Ne.symm h8)];exact e x
theorem lay_two{B:Nat}{w1 W w':World}{A1 A2 A3 A:List UInt8}{L:Nat→Bool}{g:Nat→Value}{v':Value}{ops:Array Oper}(hL:L 2=false)(hCl:∀ k j,L k=true→waits .any ops k j=true→L j=true)(h:SLay B w1 A1 A2 A3 L g W)
  (hrow:RowB B w' v' A) (hb:Below B W w') (h52:waits .any ops 5 2=true) (h85:waits .any ops 8 5=true) (hA:A=A1):SLay B w1 A1 A2 A3 (fun k=>if k=2 then true else L k) (upd g 2 v') w':=by
 have f5:L 5=false:=by
  cases h5:L 5 with
  | false=>rfl
  | true=>have:=hCl 5 2 h5 h52;rw[hL]at this;cases this
 have f8:L 8=false:=by
  cases h8:L 8 with
  | false=>rfl
  | true=>have:=hCl 8 5 h8 h85;rw[f5]at this;cases this
 refine⟨h.1.trans hb,Nat.le_trans h.2.1 hb.size,fun _ _=>by rw[upd_same,← hA];exact hrow,fun x=>?_,fun x=>?_⟩
 ·simp[f5]at x
 ·simp[f8]at x
theorem lay_five{B:Nat}{w1 W w':World}{A1 A2 A3 A:List UInt8}{L:Nat→Bool}{g:Nat→Value}{v':Value}{ops:Array Oper}(hL:L 5=false)(hCl:∀ k j,L k=true→waits .any ops k j=true→L j=true)(h:SLay B w1 A1 A2 A3 L g W)
  (hrow:RowB B w' v' A) (hb:Below B W w') (h85:waits .any ops 8 5=true) (hA:A=A2):SLay B w1 A1 A2 A3 (fun k=>if k=5 then true else L k) (upd g 5 v') w':=by
 have f8:L 8=false:=by
  cases h8:L 8 with
  | false=>rfl
  | true=>have:=hCl 8 5 h8 h85;rw[hL]at this;cases this
 refine⟨h.1.trans hb,Nat.le_trans h.2.1 hb.size,fun _ y=>?_,fun _ _=>by rw[upd_same,← hA];exact hrow,fun x=>?_⟩
 ·simp at y
 ·simp[f8]at x
theorem lay_eight{B:Nat}{w1 W w':World}{A1 A2 A3 A:List UInt8}{L:Nat→Bool}{g:Nat→Value}{v':Value}{ops:Array Oper}(hL:L 8=false)(hCl:∀ k j,L k=true→waits .any ops k j=true→L j=true)(hWt:∀ j,waits .any ops 8 j=true→L j=true)(h:SLay B w1 A1 A2 A3 L g W)
  (hrow:RowB B w' v' A) (hb:Below B W w') (h85:waits .any ops 8 5=true) (hA:A=A3):SLay B w1 A1 A2 A3 (fun k=>if k=8 then true else L k) (upd g 8 v') w':=by
 have f5:=hWt 5 h85
 refine⟨h.1.trans hb,Nat.le_trans h.2.1 hb.size,fun _ y=>?_,fun _ y=>?_,fun _=>by rw[upd_same,← hA];exact hrow⟩
 ·simp[f5]at y
 ·simp at y
def SApp(B:Nat)(w1:World)(v0:Value)(A0 A1 A2:List UInt8)(L:Nat→Bool)(g:Nat→Value)(W:World):Prop:=
 Below B w1 W∧B≤W.heap.size∧(L 2=false→RowB B W v0 A0)∧(L 2=true→L 5=false→RowB B W (g 2) A1)∧(L 5=true→RowB B W (g 5) A2)
theorem SApp.keep{B:Nat}{w1 W:World}{v0:Value}{A0 A1 A2:List UInt8}{L:Nat→Bool}{g:Nat→Value}(h:SApp B w1 v0 A0 A1 A2 L g W)(i:Nat)(v:Value)(h2:i≠2)(h5:i≠5) :
  SApp B w1 v0 A0 A1 A2 (fun k=>if k=i then true else L k) (upd g i v) W:=by
 obtain⟨a,b,c,d,e⟩:=h
 refine⟨a,b,fun x=>?_,fun x y=>?_,fun x=>?_⟩
 ·simp only[if_neg (Ne.symm h2)]at x;exact c x
 ·simp only[if_neg (Ne.symm h2)]at x;simp only[if_neg (Ne.symm h5)]at y;rw[upd_other _ _ (Ne.symm h2)];exact d x y
 ·simp only[if_neg (Ne.symm h5)]at x;rw[upd_other _ _ (Ne.symm h5)];exact e x
theorem app_two{B:Nat}{w1 W w':World}{v0:Value}{A0 A1 A2 A:List UInt8}{L:Nat→Bool}{g:Nat→Value}{v':Value}{ops:Array Oper}(hL:L 2=false)(hCl:∀ k j,L k=true→waits .any ops k j=true→L j=true)(h:SApp B w1 v0 A0 A1 A2 L g W)
  (hrow:RowB B w' v' A) (hb:Below B W w') (h52:waits .any ops 5 2=true) (hA:A=A1):SApp B w1 v0 A0 A1 A2 (fun k=>if k=2 then true else L k) (upd g 2 v') w':=by
 have f5:L 5=false:=by
  cases h5:L 5 with
  | false=>rfl
  | true=>have:=hCl 5 2 h5 h52;rw[hL]at this;cases this
 refine⟨h.1.trans hb,Nat.le_trans h.2.1 hb.size,fun x=>?_,fun _ _=>by rw[upd_same,← hA];exact hrow,fun x=>?_⟩
 ·simp at x
 ·simp[f5]at x
theorem app_five{B:Nat}{w1 W w':World}{v0:Value}{A0 A1 A2:List UInt8}{L:Nat→Bool}{g:Nat→Value}{v':Value}{ops:Array Oper}(hL:L 5=false)(hWt:∀ j,waits .any ops 5 j=true→L j=true)(h:SApp B w1 v0 A0 A1 A2 L g W)
  (hrow:RowB B w' v' A2) (hb:Below B W w') (h52:waits .any ops 5 2=true):SApp B w1 v0 A0 A1 A2 (fun k=>if k=5 then true else L k) (upd g 5 v') w':=by
 have f2:=hWt 2 h52
 refine⟨h.1.trans hb,Nat.le_trans h.2.1 hb.size,fun x=>?_,fun _ y=>?_,fun _=>by rw[upd_same];exact hrow⟩
 ·simp[f2]at x
 ·simp at y
theorem append_text{B:Nat}{W:World}{v:Value}{l:List UInt8}(h:RowB B W v l)(hB:B≤W.heap.size)(hl:l.length≤1000)(q:ByteArray)(hq:q.size≤1000)(ty:TypeId) :
  ∃ v' W',(Builtin.append_ #[129,9] ty #[v,.string q]).run Tryz.prog W = .ok v' W'∧RowB B W' v' (l++q.data.toList)∧Below B W W':=by
 obtain⟨i0,hi,hz0,hz1,hz2⟩:=info_parts info_byte
 obtain⟨v',W',hr,hown,hg,_⟩:=Lib.run_append_own_string (P:=Tryz.prog) W B 129 9 ty 5 i0 Tryz.underlying129 Tryz.underlying9 hi hz0 hz1 hz2 v l.length (Lib.byteCells l) h q (by unfold maxLen;omega) (by omega) hB
 have hsz:q.size=q.data.toList.length:=Lib.size_eq q
 refine⟨v',W',hr,?_,(Below.refl _ _).grown hg hB (fun k hk=>(h.lt k hk).1)⟩
 unfold RowB
 rw[List.length_append,← hsz,show Lib.byteCells (l++q.data.toList)=Lib.byteCells l++Lib.strCells q by simp[Lib.byteCells,Lib.strCells]]
 exact hown
theorem exec_append2{o:Oper}{ρ:Operand→Value}{w w':World}{v:Value}(s x:Operand)(t u:TypeId)(ho:o.op = .call { callee:=.builtin .append,args:=#[s,x],argTypes:=#[t,u] })
  (hr:(Builtin.append_ #[t,u] o.type #[ρ s,ρ x]).run Tryz.prog w = .ok v w'):(execOp ρ o).run Tryz.prog w = .ok (.value v) w':=by
 unfold execOp
 simp only[ho,resolve,invoke,builtin,Sem.run_bind,Sem.run_pure,Result.andThen_ok,List.map_toArray,List.map_cons,List.map_nil,hr]
theorem wpList_value{P:Program}{ops:Array Oper}{Q:Exit→Act→World→Prop}{a:Act}{w w':World}{rest:List Oper}{o:Oper}{v:Value}(hg:o.guard=none)(hr:(execOp a.eval o).run P w = .ok (.value v) w')(h:wpList P ops Q rest (a.put o.dst v) w'):wpList P ops Q (o :: rest) a w:=
 wpList_plain hg fun K hK=>by unfold Oper.wp;rw[hr];exact hK _ _ h
theorem zero_bytes(m:Nat):(Builtin.zeroCells (Value.int .u8 0).cells m).toList=List.replicate m (.int .u8 0):=by
 refine List.eq_replicate_iff.2 ⟨by simp[Builtin.zeroCells,Value.cells],fun b hb=>?_⟩
 simp only[Builtin.zeroCells,Value.cells]at hb
 simp at hb
 obtain⟨i,_,e⟩:=hb
 rw[← e,Nat.mod_one];rfl
theorem append_zeros{B:Nat}{W:World}{v:Value}{l:List UInt8}(h:RowB B W v l)(hB:B≤W.heap.size)(m:Nat)(hl:l.length+m≤1000)(ty:TypeId) :
  ∃ v' W',(Builtin.append_ #[129,3] ty #[v,.int .i64 (m:Int)]).run Tryz.prog W = .ok v' W'∧RowB B W' v' (l++List.replicate m 0)∧Below B W W':=by
 obtain⟨i0,hi,hz0,hz1,hz2⟩:=info_parts info_byte
 obtain⟨v',W',hr,hown,hg,_⟩:=run_append_zeros (P:=Tryz.prog) W B 129 3 ty 5 i0 (.int .u8 0) 1 1 Tryz.underlying129 Tryz.underlying3 hi hz0 hz1 hz2 rfl (by decide) (by decide) v l.length (Lib.byteCells l) h .i64 m (fun u hu=>by
  rw[zero_bytes]at hu
  rw[List.eq_of_mem_replicate hu];rfl) (by omega) hB
 refine⟨v',W',hr,?_,(Below.refl _ _).grown hg hB (fun k hk=>(h.lt k hk).1)⟩
 unfold RowB
 rw[zero_bytes]at hown
 rw[List.length_append,List.length_replicate,show Lib.byteCells (l++List.replicate m 0)=Lib.byteCells l++List.replicate m (.int .u8 0)by simp[Lib.byteCells]]
 exact hown
theorem or128(n:Nat)(h:n≤51):bits .or .i64 (n:Int) 128=((n+128:Nat):Int):=by
 have:∀ x:Fin 52,bits .or .i64 ((x:Nat):Int) 128=(((x:Nat)+128:Nat):Int):=by decide +kernel
 exact this ⟨n,by omega⟩
set_option maxHeartbeats 8000000 in
set_option maxRecDepth 100000 in
theorem lay_any(x:Sec)(hs:x.s.length≤51)(hl:x.life < 9223372036854775808)(hr:x.record < 9223372036854775808)(hp:x.part < 9223372036854775808)(w:World) :
  Calls Tryz.prog 129 #[.agg (secCs (some x))] w fun e w'=>e = .returned (.string ⟨(layN x).toArray⟩)∧NewMem w w':=by
 obtain⟨life,record,part,last,s⟩:=x
 simp only at hs hl hr hp
 obtain⟨q,hq⟩:∃ q:ByteArray,q=⟨s.toArray⟩:=⟨_,rfl⟩
 have hqs:q.size=s.length:=by rw[hq];simp[ByteArray.size]
 obtain⟨W1,hW1⟩:∃ W1,W1=w.alloc (.cells #[.int .i64 (life:Int),.int .i64 (record:Int),.int .i64 (part:Int),.bool last,.string q] 226):=⟨_,rfl⟩
 have hn1:NewMem w W1:=by rw[hW1];exact NewMem.alloc _ _
 have hg1:W1.heap[w.heap.size]? = some (.cells #[.int .i64 (life:Int),.int .i64 (record:Int),.int .i64 (part:Int),.bool last,.string q] 226 (0,0)):=by rw[hW1];exact heap_alloc_last _ _
 have hlt:w.heap.size < W1.heap.size:=(Array.getElem?_eq_some_iff.1 hg1).1
 have cells:∀ W,Below W1.heap.size W1 W→W.cell? ⟨w.heap.size,0,none⟩=some (.int .i64 (life:Int))∧W.cell? ⟨w.heap.size,1,none⟩=some (.int .i64 (record:Int))∧W.cell? ⟨w.heap.size,2,none⟩=some (.int .i64 (part:Int))∧W.cell? ⟨w.heap.size,3,none⟩=some (.bool last)∧W.cell? ⟨w.heap.size,4,none⟩=some (.string q):=fun W hW=>by
  have hg:=(hW.block _ hlt).trans hg1
  refine⟨?_,?_,?_,?_,?_⟩<;>(rw[Lib.cell_of_heap hg];rfl)
 have HW1:=Lib.hid hW1
 have HN1:=Lib.hid hn1
 have HC:=Lib.hid cells
 clear hW1 hn1 cells hg1
 rw[show secCs (some ⟨life,record,part,last,s⟩)=#[.int .i64 (life:Int),.int .i64 (record:Int),.int .i64 (part:Int),.bool last,.string q]by rw[hq];rfl]
 have HQ:=Lib.hid hq
 clear hq
 go_enter Tryz.func129,Tryz.ntmps129
 go_wp2_with fail
 rw[← HW1.out]
 refine' wp_region_factsG (sz:=38) (S:=(SLay W1.heap.size W1 (beL 4 life) (beL 4 life++beL 4 record) (beL 4 life++beL 4 record++beL 2 part))) (fun _ _ _=>True) [eqM _,eqM (.int .i64 (life:Int)),anyM,eqM _,eqM (.int .i64 (record:Int)),anyM,eqM _,eqM (.int .i64 (part:Int)),anyM] (by kernel_rfl) (by kernel_rfl) rfl (guardsM_of [] (n:=9) rfl (by kernel_rfl) trivial) ?hst ?h0 (Ord.stepsG_cons ?s0 (Ord.stepsG_cons ?s1 (Ord.stepsG_cons ?s2 (Ord.stepsG_cons ?s3 (Ord.stepsG_cons ?s4 (Ord.stepsG_cons ?s5 (Ord.stepsG_cons ?s6 (Ord.stepsG_cons ?s7 (Ord.stepsG_cons ?s8 (Ord.stepsG_nil)))))))))) ?fin
 case s0=>
  intro g W L hL hWt hCl hSW hd
  try simp only[Nat.zero_add,Nat.reduceAdd]at hd ⊢
  with_reducible refine OpGives.pre_reads [] 38 ?_ ?_ ?_
  ·rfl
  ·kernel_rfl
  simp only[List.map_cons,List.map_nil]
  refine OpGives.val (w':=W) ?_ ⟨trivial,rfl,(SLay.keep hSW _ _ (by decide) (by decide) (by decide))⟩
  go_simp
  try with_reducible rfl
 case s1=>
  intro g W L hL hWt hCl hSW hd
  try simp only[Nat.zero_add,Nat.reduceAdd]at hd ⊢
  have h0:g 0=_:=hd 0 (by decide) (by kernel_rfl)
  with_reducible refine OpGives.pre_reads [(5,0)] 38 ?_ ?_ ?_
  ·rfl
  ·kernel_rfl
  simp only[List.map_cons,List.map_nil]
  have c0:=(HC.out W hSW.1).1;refine OpGives.val (v:=.int .i64 (life:Int)) (w':=W) ?_ ⟨trivial,rfl,SLay.keep hSW _ _ (by decide) (by decide) (by decide)⟩;go_simp
 case s2=>
  intro g W L hL hWt hCl hSW hd
  try simp only[Nat.zero_add,Nat.reduceAdd]at hd ⊢
  have h1:g 1=_:=hd 1 (by decide) (by kernel_rfl)
  with_reducible refine OpGives.pre_reads [(6,1)] 38 ?_ ?_ ?_
  ·rfl
  ·kernel_rfl
  simp only[List.map_cons,List.map_nil]
  refine OpGives.call (f:=163) (args:=#[.slice none 0 0,.int .i64 (life:Int),.int .i64 ((4:Nat):Int)]) (w':=W) (by go_simp) ((put_row (RowB.nil W1.heap.size W) hSW.2.1 (by decide) life 4 (by decide) hl).mono fun e w' ⟨v',he,hrow,hb⟩=>⟨v',he,trivial,trivial,lay_two hL hCl hSW hrow hb (by kernel_rfl) (by kernel_rfl) rfl⟩)
 case s3=>
  intro g W L hL hWt hCl hSW hd
  try simp only[Nat.zero_add,Nat.reduceAdd]at hd ⊢
  with_reducible refine OpGives.pre_reads [] 38 ?_ ?_ ?_
  ·rfl
  ·kernel_rfl
  simp only[List.map_cons,List.map_nil]
  refine OpGives.val (w':=W) ?_ ⟨trivial,rfl,(SLay.keep hSW _ _ (by decide) (by decide) (by decide))⟩
  go_simp
  try with_reducible rfl
 case s4=>
  intro g W L hL hWt hCl hSW hd
  try simp only[Nat.zero_add,Nat.reduceAdd]at hd ⊢
  have h3:g 3=_:=hd 3 (by decide) (by kernel_rfl)
  with_reducible refine OpGives.pre_reads [(8,3)] 38 ?_ ?_ ?_
  ·rfl
  ·kernel_rfl
  simp only[List.map_cons,List.map_nil]
  have c0:=(HC.out W hSW.1).2.1;refine OpGives.val (v:=.int .i64 (record:Int)) (w':=W) ?_ ⟨trivial,rfl,SLay.keep hSW _ _ (by decide) (by decide) (by decide)⟩;go_simp
 case s5=>
  intro g W L hL hWt hCl hSW hd
  try simp only[Nat.zero_add,Nat.reduceAdd]at hd ⊢
  have h2:=hd 2 (by decide) (by kernel_rfl)
  change (anyM) (g 2) W at h2
  have h4:g 4=_:=hd 4 (by decide) (by kernel_rfl)
  with_reducible refine OpGives.pre_reads [(7,2),(9,4)] 38 ?_ ?_ ?_
  ·rfl
  ·kernel_rfl
  simp only[List.map_cons,List.map_nil]
  refine OpGives.call (f:=163) (args:=#[g 2,.int .i64 (record:Int),.int .i64 ((4:Nat):Int)]) (w':=W) (by go_simp) ((put_row (hSW.2.2.1 (hWt 2 (by kernel_rfl)) hL) hSW.2.1 (by rw[beL_len];decide) record 4 (by decide) hr).mono fun e w' ⟨v',he,hrow,hb⟩=>⟨v',he,trivial,trivial,lay_five hL hCl hSW hrow hb (by kernel_rfl) rfl⟩)
 case s6=>
  intro g W L hL hWt hCl hSW hd
  try simp only[Nat.zero_add,Nat.reduceAdd]at hd ⊢
  with_reducible refine OpGives.pre_reads [] 38 ?_ ?_ ?_
  ·rfl
  ·kernel_rfl
  simp only[List.map_cons,List.map_nil]
  refine OpGives.val (w':=W) ?_ ⟨trivial,rfl,(SLay.keep hSW _ _ (by decide) (by decide) (by decide))⟩
  go_simp
  try with_reducible rfl
 case s7=>
  intro g W L hL hWt hCl hSW hd
  try simp only[Nat.zero_add,Nat.reduceAdd]at hd ⊢
  have h6:g 6=_:=hd 6 (by decide) (by kernel_rfl)
  with_reducible refine OpGives.pre_reads [(11,6)] 38 ?_ ?_ ?_
  ·rfl
  ·kernel_rfl
  simp only[List.map_cons,List.map_nil]
  have c0:=(HC.out W hSW.1).2.2.1;refine OpGives.val (v:=.int .i64 (part:Int)) (w':=W) ?_ ⟨trivial,rfl,SLay.keep hSW _ _ (by decide) (by decide) (by decide)⟩;go_simp
 case s8=>
  intro g W L hL hWt hCl hSW hd
  try simp only[Nat.zero_add,Nat.reduceAdd]at hd ⊢
  have h5:=hd 5 (by decide) (by kernel_rfl)
  change (anyM) (g 5) W at h5
  have h7:g 7=_:=hd 7 (by decide) (by kernel_rfl)
  with_reducible refine OpGives.pre_reads [(10,5),(12,7)] 38 ?_ ?_ ?_
  ·rfl
  ·kernel_rfl
  simp only[List.map_cons,List.map_nil]
  refine OpGives.call (f:=163) (args:=#[g 5,.int .i64 (part:Int),.int .i64 ((2:Nat):Int)]) (w':=W) (by go_simp) ((put_row (hSW.2.2.2.1 (hWt 5 (by kernel_rfl)) hL) hSW.2.1 (by rw[List.length_append,beL_len,beL_len];decide) part 2 (by decide) hp).mono fun e w' ⟨v',he,hrow,hb⟩=>⟨v',he,trivial,trivial,lay_eight hL hCl hWt hSW hrow hb (by kernel_rfl) rfl⟩)
 case hst=>
  refine fun i j v w w' _ h _=>st_of (R:=fun _ _=>True) ?_ i v w w' h trivial
  repeat' first
   | exact trivial
   | with_reducible refine StL.eq ?_
   | with_reducible refine StL.any ?_
 case h0=>exact⟨(Below.refl _ _).drew,Nat.le_refl _,(fun h=>by cases h),(fun h=>by cases h),(fun h=>by cases h)⟩
 case fin=>
  intro v W L hL hSW hf
  have hrow:=hSW.2.2.2.2 (hL 8 (Nat.lt_of_lt_of_eq (by decide:8 < 9) rfl))
  have hbw:=hSW.1
  have hbs:=hSW.2.1
  clear hf hSW hL
  generalize hF:Ord.pre _ _ v _=F
  rw[Ord.pre_lit [some 5,some 6,some 7,some 8,some 9,some 10,some 11,some 12,some 13]
   (by kernel_rfl)]at hF
  simp only[Ord.puts,Nat.zero_add,Nat.reduceAdd]at hF
  subst hF
  generalize v 8=b0 at *
  refine any_one (i:=9) (by kernel_rfl) ?_
  refine wpOp_value (v:=b0) (w':=W) rfl rfl (by go_simp) ?_
  refine wpAny_done (by kernel_rfl) ?_ _
  try simp only[List.getElem_toArray,List.getElem_cons_succ,List.getElem_cons_zero]
  go_frame
  obtain⟨A3,hA3⟩:∃ A3,A3=beL 4 life++beL 4 record++beL 2 part:=⟨_,rfl⟩
  rw[← hA3]at hrow
  obtain⟨cnt,hcnt⟩:∃ cnt,cnt=s.length+if last then 128 else 0:=⟨_,rfl⟩
  have hcn:cnt < 256:=by rw[hcnt];split<;>omega
  have hA3l:A3.length=10:=by rw[hA3];simp[beL_len]
  have HROW:=Lib.hid hrow
  have HBW:=Lib.hid hbw
  have HBS:=Lib.hid hbs
  have HA3:=Lib.hid hA3
  have HCN:=Lib.hid hcnt
  have HA3L:=Lib.hid hA3l
  have HLT:=Lib.hid hlt
  clear hrow hbw hbs hA3 hcnt hA3l hlt
  obtain⟨_,_,_,c3,c4⟩:=HC.out W HBW.out
  go_upto_if 18 with (fail)
  clear c3 c4
  go_cut [4] (fun n wc=>n = .int .i64 (cnt:Int)∧wc=W)
  case first=>
   have ho:=or128 s.length hs
   cases last with
   | true=>
    have e:cnt=s.length+128:=HCN.out
    have E:=Lib.hid e
    clear e
    go_wp2_with fail
    go_meet
    case rel=>exact⟨by rw[E.out];go_num,rfl⟩
   | false=>
    have e:cnt=s.length:=HCN.out
    have E:=Lib.hid e
    clear e ho
    go_wp2_with fail
    go_meet
    case rel=>exact⟨by rw[E.out],rfl⟩
  case rest=>
   obtain⟨rfl,rfl⟩:=hcut
   go_wp2_with fail
   refine' wp_region_factsG (sz:=38) (S:=(SApp W1.heap.size wc b0 A3 (A3++beL 1 cnt) (A3++beL 1 cnt++s))) (fun _ _ _=>True) [eqM _,eqM _,anyM,eqM _,eqM (.string q),anyM] (by kernel_rfl) (by kernel_rfl) rfl (guardsM_of [] (n:=6) rfl (by kernel_rfl) trivial) ?hst ?h0 (Ord.stepsG_cons ?s0 (Ord.stepsG_cons ?s1 (Ord.stepsG_cons ?s2 (Ord.stepsG_cons ?s3 (Ord.stepsG_cons ?s4 (Ord.stepsG_cons ?s5 (Ord.stepsG_nil))))))) ?fin
   case s0=>
    intro g W L hL hWt hCl hSW hd
    try simp only[Nat.zero_add,Nat.reduceAdd]at hd ⊢
    with_reducible refine OpGives.pre_reads [] 38 ?_ ?_ ?_
    ·rfl
    ·kernel_rfl
    simp only[List.map_cons,List.map_nil]
    refine OpGives.val (w':=W) ?_ ⟨trivial,rfl,(SApp.keep hSW _ _ (by decide) (by decide))⟩
    go_simp
    try with_reducible rfl
   case s1=>
    intro g W L hL hWt hCl hSW hd
    try simp only[Nat.zero_add,Nat.reduceAdd]at hd ⊢
    with_reducible refine OpGives.pre_reads [] 38 ?_ ?_ ?_
    ·rfl
    ·kernel_rfl
    simp only[List.map_cons,List.map_nil]
    refine OpGives.val (w':=W) ?_ ⟨trivial,rfl,(SApp.keep hSW _ _ (by decide) (by decide))⟩
    go_simp
    try with_reducible rfl
   case s2=>
    intro g W L hL hWt hCl hSW hd
    try simp only[Nat.zero_add,Nat.reduceAdd]at hd ⊢
    have h0:g 0=_:=hd 0 (by decide) (by kernel_rfl)
    have h1:g 1=_:=hd 1 (by decide) (by kernel_rfl)
    with_reducible refine OpGives.pre_reads [(21,0),(22,1)] 38 ?_ ?_ ?_
    ·rfl
    ·kernel_rfl
    simp only[List.map_cons,List.map_nil]
    refine OpGives.call (f:=163) (args:=#[b0,.int .i64 (cnt:Int),.int .i64 ((1:Nat):Int)]) (w':=W) (by go_simp) ((put_row (hSW.2.2.1 hL) hSW.2.1 (by rw[HA3L.out];decide) cnt 1 (by decide) (by omega)).mono fun e w' ⟨v',he,hrow,hb⟩=>⟨v',he,trivial,trivial,app_two hL hCl hSW hrow hb (by kernel_rfl) rfl⟩)
   case s3=>
    intro g W L hL hWt hCl hSW hd
    try simp only[Nat.zero_add,Nat.reduceAdd]at hd ⊢
    with_reducible refine OpGives.pre_reads [] 38 ?_ ?_ ?_
    ·rfl
    ·kernel_rfl
    simp only[List.map_cons,List.map_nil]
    refine OpGives.val (w':=W) ?_ ⟨trivial,rfl,(SApp.keep hSW _ _ (by decide) (by decide))⟩
    go_simp
    try with_reducible rfl
   case s4=>
    intro g W L hL hWt hCl hSW hd
    try simp only[Nat.zero_add,Nat.reduceAdd]at hd ⊢
    have h3:g 3=_:=hd 3 (by decide) (by kernel_rfl)
    with_reducible refine OpGives.pre_reads [(24,3)] 38 ?_ ?_ ?_
    ·rfl
    ·kernel_rfl
    simp only[List.map_cons,List.map_nil]
    have c4:=(HC.out W (HBW.out.trans hSW.1)).2.2.2.2;refine OpGives.val (v:=.string q) (w':=W) ?_ ⟨trivial,rfl,SApp.keep hSW _ _ (by decide) (by decide)⟩;go_simp
   case s5=>
    intro g W L hL hWt hCl hSW hd
    try simp only[Nat.zero_add,Nat.reduceAdd]at hd ⊢
    have h2:=hd 2 (by decide) (by kernel_rfl)
    change (anyM) (g 2) W at h2
    have h4:g 4=_:=hd 4 (by decide) (by kernel_rfl)
    with_reducible refine OpGives.pre_reads [(23,2),(25,4)] 38 ?_ ?_ ?_
    ·rfl
    ·kernel_rfl
    simp only[List.map_cons,List.map_nil]
    obtain⟨v',W',hr,hrow,hb⟩:=append_text (hSW.2.2.2.1 (hWt 2 (by kernel_rfl)) hL) hSW.2.1 (by rw[List.length_append,HA3L.out,beL_len];decide) q (by rw[hqs];omega) 129;rw[← h4]at hr;exact OpGives.val (v:=v') (w':=W') (exec_append2 _ _ _ _ rfl hr) ⟨trivial,trivial,app_five hL hWt hSW (by rw[HQ.out]at hrow;simpa using hrow) hb (by kernel_rfl)⟩
   case hst=>
    refine fun i j v w w' _ h _=>st_of (R:=fun _ _=>True) ?_ i v w w' h trivial
    repeat' first
     | exact trivial
     | with_reducible refine StL.eq ?_
     | with_reducible refine StL.any ?_
   case h0=>exact⟨(Below.refl _ _).drew,HBS.out,fun _=>HROW.out,(fun h=>by cases h),(fun h=>by cases h)⟩
   case fin=>
    intro v W L hL hSW hf
    have hrow:=hSW.2.2.2.2 (hL 5 (Nat.lt_of_lt_of_eq (by decide:5 < 6) rfl))
    have hbw:=hSW.1
    have hbs:=hSW.2.1
    clear hf hSW hL
    generalize hF:Ord.pre _ _ v _=F
    rw[Ord.pre_lit [some 21,some 22,some 23,some 24,some 25,some 26]
     (by kernel_rfl)]at hF
    simp only[Ord.puts,Nat.zero_add,Nat.reduceAdd]at hF
    subst hF
    generalize v 5=b1 at *
    refine any_one (i:=6) (by kernel_rfl) ?_
    refine wpOp_value (v:=b1) (w':=W) rfl rfl (by go_simp) ?_
    refine wpAny_done (by kernel_rfl) ?_ _
    try simp only[List.getElem_toArray,List.getElem_cons_succ,List.getElem_cons_zero]
    go_frame
    obtain⟨l1,hl1⟩:∃ l1,l1=A3++beL 1 cnt++s:=⟨_,rfl⟩
    rw[← hl1]at hrow
    have hll:l1.length=11+s.length:=by rw[hl1,List.length_append,List.length_append,HA3L.out,beL_len]
    have hll2:l1.length≤62:=by omega
    obtain⟨a,cp,rfl⟩:=hrow.slice
    obtain⟨v2,W2,hr2,hrow2,hb2⟩:=append_zeros hrow hbs (62 - l1.length) (by omega) 129
    rw[show((62 - l1.length:Nat):Int)=62 - (l1.length:Int)by omega]at hr2
    have hlay:headL ⟨life,record,part,last,s⟩=l1++List.replicate (62 - l1.length) 0:=by
     unfold headL
     simp only
     rw[← HCN.out,hl1,HA3.out,show 62 - (beL 4 life++beL 4 record++beL 2 part++beL 1 cnt++s).length=51 - s.length by simp[beL_len];omega]
     simp only[List.append_assoc]
    have hB2:Below W1.heap.size W1 W2:=(HBW.out.trans hbw).trans hb2
    have hs2:W1.heap.size≤W2.heap.size:=Nat.le_trans hbs hb2.size
    rw[← hlay]at hrow2
    have h62:(headL ⟨life,record,part,last,s⟩).length=62:=headL_len hs
    obtain⟨hd,hhd⟩:∃ hd,hd=headL ⟨life,record,part,last,s⟩:=⟨_,rfl⟩
    have hfin:layN ⟨life,record,part,last,s⟩=hd++beL 2 (weighL hd):=by rw[hhd];rfl
    rw[← hhd]at hrow2 h62
    have hst:=hrow2.string
    have hw3:=fun W=>weigh_any ⟨hd.toArray⟩ (by rw[Lib.size_eq];simp[h62]) W
    have hdl:(⟨hd.toArray⟩:ByteArray).data.toList=hd:=by simp
    rw[hdl]at hw3
    obtain⟨hq2,hhq2⟩:∃ hq2:ByteArray,hq2=⟨hd.toArray⟩:=⟨_,rfl⟩
    rw[← hhq2]at hst hw3
    have HW3:=Lib.hid hw3
    have HROW2:=Lib.hid hrow2
    have HB2:=Lib.hid hB2
    have HS2:=Lib.hid hs2
    have HFIN:=Lib.hid hfin
    have H62:=Lib.hid h62
    clear hrow hbw hbs hl1 hll hrow2 hb2 hlay hB2 hs2 h62 hhd hfin hw3 hdl hhq2
    go_wp2_with (refine wpList_value rfl (exec_append2 _ _ 129 3 rfl hr2) ?_)
    refine(HW3.out W2).mono ?_
    rintro e W3 ⟨rfl,hb3⟩
    have HROW3:=Lib.hid (HROW2.out.below hb3)
    have HB3:=Lib.hid (HB2.out.trans (hb3.mono HS2.out))
    have HS3:=Lib.hid (Nat.le_trans HS2.out hb3.size)
    clear hb3
    go_wp2_with fail
    refine(put_row HROW3.out HS3.out (by rw[H62.out];decide) (weighL hd) 2 (by decide) (by have:=weighL_lt hd;omega)).mono ?_
    rintro e W4 ⟨v4,rfl,hrow4,hb4⟩
    have hst4:=hrow4.string
    have HB4:=Lib.hid (NewMem.trans HN1.out (HB3.out.trans hb4))
    clear hrow4 hb4 hst
    go_wp2_with fail
    go_ret
    exact⟨by rw[HFIN.out];rfl,HB4.out⟩
end Go.Proofs.YtlmabbigfdbmbaaGreatDoor.Tape
namespace Go.Proofs.YtlmabbigfdbmbaaGreatDoor.Tape
open Go.RowKit Go.Proofs.YtlmabbigfdbmbaaGreatDoor.Ord Go.Proofs.YtlmabbigfdbmbaaGreatDoorW.PrintWords Go.Proofs.YtlmabbigfdbmbaaGreatDoor.Base Go.Proofs.YtlmabbigfdbmbaaGreatDoor.Drum
open Go.Shelf
attribute [local go_sem] Oper.semAt_some
def DS.sec(D:DS)(j:Nat):Option Sec:=saysN (D.shows j)
def encSec(D:DS)(j:Nat):Array Value:=#[.agg (secCs (DS.sec D j)),.bool (DS.sec D j).isSome]
theorem shows_len{w:World}{b sb cap:Nat}{lv:Value}{D:DS}(h:DrumAt w b sb cap lv D){j:Nat}(hj:j < D.sure.length):(D.shows j).length=64:=by
 unfold DS.shows
 cases hf:D.loose.reverse.find? (fun q=>q.1 == j)with
 | some q=>exact(h.wloose q (List.mem_reverse.1 (List.mem_of_find?_eq_some hf))).1
 | none=>
  have:D.sure.getD j []=D.sure[j]:=by rw[List.getD_eq_getElem?_getD,List.getElem?_eq_getElem hj];rfl
  rw[this]
  exact h.wsure _ (List.getElem_mem hj)
theorem read_in{D:DS}{j:Nat}(hd:D.down=false)(hj:j < D.sure.length):D.read (j:Int)=(D.shows j,0):=by
 unfold DS.read
 rw[if_neg (by rw[hd];simp),if_pos ⟨by omega,by omega⟩,Int.toNat_natCast]
structure DrumLow(n₀:Nat)(W:World)(b:Nat)(D:DS):Prop where
 at_:∃ sb cap lv,DrumAt W b sb cap lv D∧sb < n₀∧∀ k,lv.ownBlock=some k→k < n₀
 lt:b < n₀
 down:D.down=false
 few:D.loose.length≤1000000
theorem DrumLow.below{n₀:Nat}{W W':World}{b:Nat}{D:DS}(h:DrumLow n₀ W b D)(hb:Below n₀ W W')(hn:n₀≤W.heap.size):DrumLow n₀ W' b D:=by
 obtain⟨⟨sb,cap,lv,h1,h2,h3⟩,h4,h5,h6⟩:=h
 refine⟨⟨sb,cap,lv,h1.kept (F:=fun k=>n₀≤k) ⟨hb.os,hb.tape,hb.output,hb.size,fun k hk hn=>hb.block k (by omega)⟩ (fun k hk=>?_),h2,h3⟩,h4,h5,h6⟩
 rcases hk with rfl | rfl | hk
 ·omega
 ·omega
 ·have:=h3 k hk;omega
theorem DrumLow.cellb{n₀:Nat}{W:World}{b:Nat}{D:DS}(h:DrumLow n₀ W b D):∃ a cap,W.cell? ⟨b,0,none⟩=some (.slice a D.sure.length cap)∧0 < D.sure.length∧D.sure.length≤4096:=by
 obtain⟨sb,cap,lv,h1,_⟩:=h.at_
 exact⟨_,_,h1.cell.cells.1,h1.pos,h1.few⟩
theorem DrumLow.read{n₀:Nat}{W:World}{b:Nat}{D:DS}(h:DrumLow n₀ W b D){j:Nat}(hj:j < D.sure.length) :
  Calls Tryz.prog 189 #[.pointer (some ⟨b,0,none⟩),.int .i64 (j:Int)] W fun e W'=>e = .returned (.tuple #[.string ⟨(D.shows j).toArray⟩,.int .i64 0])∧NewMem W W':=by
 obtain⟨sb,cap,lv,h1,_⟩:=h.at_
 have:=read_at b sb cap lv D (j:Int) W h1 h.few
 rw[read_in h.down hj]at this
 exact this
theorem DrumLow.shows{n₀:Nat}{W:World}{b:Nat}{D:DS}(h:DrumLow n₀ W b D){j:Nat}(hj:j < D.sure.length):(D.shows j).length=64:=by
 obtain⟨sb,cap,lv,h1,_⟩:=h.at_
 exact shows_len h1 hj
theorem says_of(l:List UInt8)(h:l.length=64)(w:World) :
  Calls Tryz.prog 190 #[.string ⟨l.toArray⟩] w fun e w'=>e = .returned (.tuple #[.agg (secCs (saysN l)),.bool (saysN l).isSome])∧NewMem w w':=by
 have:=says_any ⟨l.toArray⟩ (by rw[Lib.size_eq];simpa using h) w
 have e:(⟨l.toArray⟩:ByteArray).data.toList=l:=by simp
 rw[e]at this
 exact this
def Kp(n₀ Bd:Nat)(W W':World):Prop:=Below n₀ W W'∧∀ o,W.heap[Bd]? = some o→W'.heap[Bd]? = some o
theorem Kp.refl(n₀ Bd:Nat)(W:World):Kp n₀ Bd W W:=⟨Below.refl _ _,fun _ h=>h⟩
theorem Kp.trans{n₀ Bd:Nat}{A B C:World}(h:Kp n₀ Bd A B)(k:Kp n₀ Bd B C):Kp n₀ Bd A C:=⟨h.1.trans k.1,fun o e=>k.2 o (h.2 o e)⟩
theorem Kp.put{n₀ Bd:Nat}{w:World}(hn:n₀≤w.heap.size)(hB:Bd < w.heap.size)(W:World)(l:Nat)(o o':Obj)(hl:w.heap.size≤l)(h:W.heap[l]? = some o)(h1:o.isCells=false)(h2:o.isWalk=false):Kp n₀ Bd W (W.putObj l o'):=
 ⟨belowK_b hn W l o o' hl h h1 h2,fun x e=>((grownBy_putObj' W l o').block Bd (Array.getElem?_eq_some_iff.1 e).1 (fun e=>by injection e;omega)).trans e⟩
theorem Kp.of_new{n₀ Bd:Nat}{A B:World}(h:NewMem A B)(hn:n₀≤A.heap.size):Kp n₀ Bd A B:=⟨h.mono hn,fun o e=>(h.block _ (Array.getElem?_eq_some_iff.1 e).1).trans e⟩
set_option maxRecDepth 100000 in
set_option maxHeartbeats 4000000 in
theorem sectors1_in(n:Nat)(hn:1≤n)(l Bf Bd n₀ b from_:Nat)(D:DS)(J Jx:List Nat→World→Prop)(hJ:∀ pre W W',J pre W→NewMem W W'→J pre W')
  (hY:∀ pre x W,J pre W→pre.length < D.sure.length - from_→YieldAt .wide (n - 1) Tryz.prog l (encSec D x) W fun e W'=>
   (e = .returned (.bool true)∧J (pre ++ [x]) W'∧Kp n₀ Bd W W')∨(e = .returned (.bool false)∧Jx (pre ++ [x]) W'))
  (W:World) (hn₀:n₀≤W.heap.size) (hbf:W.cell? ⟨Bf,0,none⟩=some (.int .i64 (from_:Int))) {tB:TypeId} (hbd:W.heap[Bd]? = some (.cells #[.pointer (some ⟨b,0,none⟩)] tB (0,0))) (hD:DrumLow n₀ W b D) (hfr:from_≤D.sure.length) (h0:J [] W) :
  CallsIn .wide n Tryz.prog 188 #[.func (.yield l) #[] #[],.pointer (some ⟨Bf,0,none⟩),.pointer (some ⟨Bd,0,none⟩)] W fun e W'=>(∃ v,e = .returned v)∧
   ((∃ ys,ys=List.range' from_ (D.sure.length - from_)∧J ys W')∨(∃ pre,(∃ k,k≤D.sure.length - from_∧pre=List.range' from_ k)∧Jx pre W')):=by
 obtain⟨a0,cap0,_,hpos,hfew⟩:=hD.cellb
 have HD:=Lib.hid hD
 have HY:=Lib.hid hY
 have HJ:=Lib.hid hJ
 have HBD:=Lib.hid hbd
 have HN₀:=Lib.hid hn₀
 obtain⟨N,hN⟩:∃ N,N=D.sure.length:=⟨_,rfl⟩
 have HN:=Lib.hid hN
 rw[← hN]at hpos hfew hfr
 clear hD hY hJ hbd hN hn₀
 refine callsIn_of_wp Tryz.func188 rfl trivial ?_ rfl
 simp only[Tryz.ntmps188,List.size_toArray,List.length_cons,List.length_nil,Nat.reduceAdd,Nat.reduceSub,Array.replicate_succ,Array.replicate_zero,List.push_toArray,List.append_toArray,List.nil_append,List.cons_append]
 gi_wp2
 gi_loopw [4] (fun i wr=>∃ k:Nat,from_+k≤N∧i = .int .i64 ((from_+k:Nat):Int)∧J (List.range' from_ k) wr∧Kp n₀ Bd W wr)
  (fun i _=>N - (intOf i).toNat)
 case atStart=>exact⟨0,by omega,rfl,h0,Kp.refl _ _ _⟩
 case round=>
  obtain⟨k,hk,rfl,hJs,hnx⟩:=hrel
  have hbd:wr.cell? ⟨Bd,0,none⟩=some (.pointer (some ⟨b,0,none⟩)):=by rw[Lib.cell_of_heap (hnx.2 _ HBD.out)];rfl
  have hDr:=HD.out.below hnx.1 HN₀.out
  obtain⟨a1,cap1,c1,_,_⟩:=hDr.cellb
  have hsize:=size_of b a1 D.sure.length cap1 wr c1 HD.out.cellb.choose_spec.choose_spec.2.1
  rw[← HN.out]at hsize
  have HSZ:=Lib.hid hsize
  have HDR:=Lib.hid hDr
  have HJS:=Lib.hid hJs
  have HNX:=Lib.hid hnx
  clear hDr c1 hsize hJs hnx
  by_cases hlt:from_+k < N
  ·have hj:from_+k < D.sure.length:=by have:=HN.out;omega
   have hrd:=HDR.out.read hj
   have hsh:=HDR.out.shows hj
   have hsy:=fun W=>says_of (D.shows (from_+k)) hsh W
   have hsucc:List.range' from_ (k+1)=List.range' from_ k ++ [from_+k]:=by rw[List.range'_concat];simp
   have hlen:(List.range' from_ k).length < D.sure.length - from_:=by rw[List.length_range'];have:=HN.out;omega
   have rnd:∀ w3,NewMem wr w3→YieldAt .wide (n - 1) Tryz.prog l (encSec D (from_+k)) w3 fun e W'=>
     (e = .returned (.bool true)∧J (List.range' from_ (k+1)) W'∧Kp n₀ Bd w3 W')∨(e = .returned (.bool false)∧Jx (List.range' from_ (k+1)) W'):=fun w3 h3=>by
    rw[hsucc]
    exact HY.out _ _ w3 (HJ.out _ _ _ HJS.out h3) hlen
   have RND:=Lib.hid rnd
   have HRD:=Lib.hid hrd
   have HSY:=Lib.hid hsy
   have HSUC:=Lib.hid hsucc
   clear hrd hsh hsy hsucc hlen rnd hj
   gi_wp2_with (first
    | (refine⟨trivial,?_⟩;gi_at_call 96;refine(callsIn_wide.2 HSZ.out).mono ?_;rintro e w' ⟨rfl,rfl⟩)
    | (refine⟨trivial,?_⟩;gi_at_call 189;refine(callsIn_wide.2 HRD.out).mono ?_;rintro e w2 ⟨rfl,hn2⟩;have HN2:=Lib.hid hn2;clear hn2))
   refine⟨trivial,?_⟩
   refine(callsIn_wide.2 (HSY.out _)).mono ?_
   rintro e w3 ⟨rfl,hn3⟩
   have HN3:=Lib.hid (NewMem.trans HN2.out hn3)
   clear hn3
   obtain⟨fn,tmps,assign,body,hy,hR⟩:=RND.out _ HN3.out
   unfold encSec DS.sec at hy
   gi_wp2
   refine hR.mono ?_
   rintro e W3 (⟨rfl,hJ3,hk3⟩ | ⟨rfl,hJx3⟩)
   ·have hb3:Kp n₀ Bd W W3:=(HNX.out.trans (Kp.of_new HN3.out (Nat.le_trans HN₀.out HNX.out.1.size))).trans hk3
    have HJ3:=Lib.hid hJ3
    have HB3:=Lib.hid hb3
    clear hJ3 hk3 hb3
    gi_wp2
    go_roundw
    case rel=>exact⟨k+1,by omega,by go_num,HJ3.out,HB3.out⟩
    case measure=>simp only[intOf];omega
   ·have HJX:=Lib.hid hJx3
    clear hJx3
    gi_wp2
    refine bodyPost_ret (results_none rfl _ _ _) rfl ?_
    exact⟨⟨_,rfl⟩,.inr ⟨_,⟨k+1,by have:=HN.out;omega,rfl⟩,HJX.out⟩⟩
  ·have hkn:k=D.sure.length - from_:=by have:=HN.out;omega
   gi_wp2_with (refine⟨trivial,?_⟩;gi_at_call 96;refine(callsIn_wide.2 HSZ.out).mono ?_;rintro e w' ⟨rfl,rfl⟩)
   go_end0
   exact⟨⟨_,rfl⟩,.inl ⟨_,by rw[hkn],HJS.out⟩⟩
theorem sectors_stops(n:Nat)(hn:1≤n)(Bf Bd n₀ b from_:Nat)(D:DS)(w:World)(hn₀:n₀≤w.heap.size){tF tB:TypeId}(hbf:w.heap[Bf]? = some (.cells #[.int .i64 (from_:Int)] tF (0,0)))(hbd:w.heap[Bd]? = some (.cells #[.pointer (some ⟨b,0,none⟩)] tB (0,0)))(hD:DrumLow n₀ w b D)(hfr:from_≤D.sure.length) :
  SeqStopsK .wide n Tryz.prog 188 #[.pointer (some ⟨Bf,0,none⟩),.pointer (some ⟨Bd,0,none⟩)] (encSec D) (Kp n₀ Bd) (fun ys=>ys=List.range' from_ (D.sure.length - from_))
   (fun pre=>∃ k,k≤D.sure.length - from_∧pre=List.range' from_ k) (D.sure.length - from_) w:=fun l J Jx W hW hJ _ hY h0=>by
 have h1:=(hW.block Bf (Array.getElem?_eq_some_iff.1 hbf).1).trans hbf
 have h2:=(hW.block Bd (Array.getElem?_eq_some_iff.1 hbd).1).trans hbd
 have c1:W.cell? ⟨Bf,0,none⟩=some (.int .i64 (from_:Int)):=by rw[Lib.cell_of_heap h1];rfl
 exact sectors1_in n hn l Bf Bd n₀ b from_ D J Jx (fun pre A B hA hAB=>hJ pre A B none hA ⟨hAB.os,hAB.tape,hAB.output,hAB.size,fun k hk _=>hAB.block k hk⟩ (fun r e=>by cases e)) hY W (Nat.le_trans hn₀ hW.size) c1 h2 (hD.below (hW.mono hn₀) hn₀) hfr h0
end Go.Proofs.YtlmabbigfdbmbaaGreatDoor.Tape
namespace Go.Proofs.YtlmabbigfdbmbaaGreatDoor.Tape
open Go.RowKit Go.Proofs.YtlmabbigfdbmbaaGreatDoor.Ord Go.Proofs.YtlmabbigfdbmbaaGreatDoorW.PrintWords Go.Proofs.YtlmabbigfdbmbaaGreatDoor.Base Go.Proofs.YtlmabbigfdbmbaaGreatDoor.Drum
open Go.Shelf
attribute [local go_sem] Oper.semAt_some
attribute [local irreducible] OpGives
theorem sectors_in(F:Fence)(n:Nat)(hf:F.fn 159)(hro:F.round=none)(b from_:Value)(w:World)(h1:b.oneCell'=true)(h2:from_.oneCell'=true) :
  CallsIn F n Tryz.prog 159 #[b,from_] w fun e w'=>e = .returned (.func (.func 188) #[] #[.pointer (some ⟨w.heap.size+1,0,none⟩),.pointer (some ⟨w.heap.size,0,none⟩)])∧w'=(w.alloc (.cells #[b] 57)).alloc (.cells #[from_] 3):=by
 refine callsIn_of_wp Tryz.func159 rfl hf ?_ hro
 simp only[Tryz.ntmps159,List.size_toArray,List.length_cons,List.length_nil,Nat.reduceAdd,Nat.reduceSub,Array.replicate_succ,Array.replicate_zero,List.push_toArray,List.append_toArray,List.nil_append,List.cons_append]
 gi_wp2
 go_ret
 exact⟨rfl,by simp⟩
def DS.great1(D:DS)(m j:Nat):Nat:=match DS.sec D j with
 | some x=>max m x.life
 | none=>m
def DS.greatL(D:DS)(l:List Nat):Nat:=l.foldl (DS.great1 D) 0
def DS.great(D:DS):Nat:=DS.greatL D (List.range' 0 D.sure.length)
theorem greatL_snoc(D:DS)(l:List Nat)(j:Nat):DS.greatL D (l ++ [j])=DS.great1 D (DS.greatL D l) j:=by unfold DS.greatL;rw[List.foldl_append];rfl
theorem own_lt{W:World}{base:Nat}{e:TypeId}{size:Nat}{g cap k n:Nat}{xs:List Value}(h:W.ownsRow base e size (.slice (some ⟨g,0,none⟩) n cap) k xs):g < W.heap.size:=by
 rcases h.2 with ⟨e,_⟩ | ⟨g',cp,cur,e,_,hg,_⟩
 ·cases e
 ·injection e with e1 _ _
  injection e1 with e1
  injection e1 with e1
  subst e1
  exact(Array.getElem?_eq_some_iff.1 hg).1
theorem Kp.set{n₀ Bd B:Nat}(hB:n₀≤B)(hne:Bd≠B)(W:World)(v:Value):Kp n₀ Bd W (W.setCell ⟨B,0,none⟩ v):=
 ⟨(Below.refl n₀ W).setCell (p:=⟨B,0,none⟩) hB v,fun o e=>(Below.heap_setCell W _ v Bd hne).trans e⟩
theorem kp_own{β:Type}{n₀ Bd B:Nat}{w₀:World}(hn:n₀≤w₀.heap.size)(hB:n₀≤B)(hBd:Bd < B):OwnFrom B (fun(_:β) W=>Kp n₀ Bd w₀ W):=fun s X Y row hs hg hr=>
 ⟨ownFrom_below hn hB s X Y row hs.1 hg hr,fun o e=>by
  have hX:=hs.2 o e
  exact(hg.block Bd (Array.getElem?_eq_some_iff.1 hX).1 (fun e=>by have:=(hr Bd e.symm).1;omega)).trans hX⟩
theorem sec_info(o:Option Sec):(Tryz.prog.info? 226).map (·.size)=some (secCs o).size∧5=(secCs o).size∧(secCs o).all (·.oneCell')=true:=by
 have h1:(Tryz.prog.info? 226).map (fun i=>i.size)=some 5:=by kernel_rfl
 cases o<;>exact⟨h1,rfl,by simp[secCs,Value.oneCell']⟩
def lifeBox(W:World)(B:Nat)(n:Nat):Prop:=W.heap[B]? = some (.cells #[.int .i64 (n:Int)] 3 (0,0))
set_option maxRecDepth 100000 in
set_option maxHeartbeats 8000000 in
theorem greatest_at(b sb cap:Nat)(lv:Value)(D:DS)(w:World)(h:DrumAt w b sb cap lv D)(hd:D.down=false)(hn:D.loose.length≤1000000) :
  Calls Tryz.prog 125 #[.pointer (some ⟨b,0,none⟩)] w fun e w'=>e = .returned (.int .i64 (DS.great D:Int))∧NewMem w w':=by
 obtain⟨W0,hW0⟩:∃ W0,((w.alloc (.cells #[.int .i64 0] 3)).alloc (.cells #[.pointer (some ⟨b,0,none⟩)] 57)).alloc (.cells #[.int .i64 0] 3)=W0:=⟨_,rfl⟩
 have hz:W0.heap.size=w.heap.size+3:=by rw[← hW0];simp
 have hw0:NewMem w W0:=by rw[← hW0];exact((NewMem.alloc _ _).trans (NewMem.alloc _ _)).trans (NewMem.alloc _ _)
 have b0:Boxed W0 w.heap.size 3 (.int .i64 0):=by rw[← hW0];exact((Boxed.new w 3 _).alloc _).alloc _
 have b1:Boxed W0 (w.heap.size+1) 57 (.pointer (some ⟨b,0,none⟩)):=by
  have:=(Boxed.new (w.alloc (.cells #[.int .i64 0] 3)) 57 (.pointer (some ⟨b,0,none⟩))).alloc (.cells #[.int .i64 0] 3)
  rw[World.size_alloc,hW0]at this;exact this
 have b2:Boxed W0 (w.heap.size+1+1) 3 (.int .i64 0):=by
  have:=Boxed.new ((w.alloc (.cells #[.int .i64 0] 3)).alloc (.cells #[.pointer (some ⟨b,0,none⟩)] 57)) 3 (.int .i64 0)
  rw[World.size_alloc,World.size_alloc,hW0]at this;exact this
 have hblk:∀ k,lv.ownBlock=some k→k < w.heap.size:=fun k hk=>by
  rcases h.loose.2 with ⟨e,_⟩ | ⟨g,cp,cur,e,_,hg,_⟩
  ·rw[e]at hk;simp[Value.ownBlock]at hk
  ·rw[e]at hk
   have:g=k:=by simpa [Value.ownBlock] using hk
   subst this
   exact(Array.getElem?_eq_some_iff.1 hg).1
 have hlow:DrumLow w.heap.size W0 b D:=⟨⟨sb,cap,lv,h.kept (F:=fun _=>False) (Mod.of_below hw0) (fun _ _=>id),own_lt h.sure,hblk⟩,(Array.getElem?_eq_some_iff.1 h.cell).1,hd,hn⟩
 have stops:=sectors_stops (30 - 1) (by decide) (w.heap.size+1+1) (w.heap.size+1) w.heap.size b 0 D W0 (by omega) b2 b1 hlow (by omega)
 have STOPS:=Lib.hid stops
 have HW0:=Lib.hid hW0
 have HW:=Lib.hid hw0
 have HZ:=Lib.hid hz
 have B0:=Lib.hid b0
 have B1:=Lib.hid b1
 clear stops hW0 hw0 hz b0 b1 b2 hblk hlow h hd hn
 refine(callsIn_wide (n:=30)).1 ?_
 refine callsIn_of_wp_marks Tryz.func125 rfl trivial ?_ rfl
 simp only[Tryz.ntmps125,List.size_toArray,List.length_cons,List.length_nil,Nat.reduceAdd,Nat.reduceSub,Array.replicate_succ,Array.replicate_zero,List.push_toArray,List.append_toArray,List.nil_append,List.cons_append]
 gi_wp2_with (refine⟨trivial,?_⟩;gi_at_call 159;refine(sectors_in Fence.wide _ trivial rfl _ _ _ rfl rfl).mono ?_;rintro e w' ⟨rfl,rfl⟩)
 rw[HW0.out]
 refine wpIn_rangeFunc_ownH rfl (by decide) (gf:=188) (lb:=#[.pointer (some ⟨w.heap.size+1+1,0,none⟩),.pointer (some ⟨w.heap.size+1,0,none⟩)]) rfl trivial (enters_of Tryz.func188 (by kernel_rfl) rfl)
  STOPS.out (fun h k=>Kp.trans h k) (fun W l o o' hl h h1 h2=>Kp.put (w:=W0) (by have:=HZ.out;omega) (by have:=HZ.out;omega) W l o o' hl h h1 h2) (Below.refl _ _) (by intro x;rfl)
  (fun pre W=>lifeBox W w.heap.size (DS.greatL D pre)∧Kp w.heap.size (w.heap.size+1) W0 W)
  (fun c pre W=>False)
  (OwnFrom.and (fun s A B row h hg hr=>block_own _ _ _ _ W0.heap.size () A B row h hg hr) (kp_own (by have:=HZ.out;omega) (by have:=HZ.out;omega) (by have:=HZ.out;omega)))
  (fun c s A B row h hg hr=>h)
  ⟨B0.out,Kp.refl _ _ _⟩
  (fun x a' W=>∃ Bx,W0.heap.size≤Bx∧W.heap[Bx]? = some (.cells (secCs (DS.sec D x)) 226 (0,0))∧a' = { tmps:=#[Value.pointer (some { block:=b,off:=0 }),undef,Value.int IntKind.i64 0,Value.pointer (some { block:=w.heap.size,off:=0 }),Value.pointer (some { block:=Bx,off:=0 }),.bool (DS.sec D x).isSome,Value.pointer (some { block:=b,off:=0 }),Value.func (Fn.func 188) #[] #[Value.pointer (some { block:=w.heap.size+1+1,off:=0 }),Value.pointer (some { block:=w.heap.size+1,off:=0 })],.agg (secCs (DS.sec D x)),.bool (DS.sec D x).isSome,undef,undef,undef,undef,undef,undef],defers:=[] })
  (fun x a' s X Y row hs hg hr=>by obtain⟨Bx,h1,h2,h3⟩:=hs;exact⟨Bx,h1,block_own _ _ _ _ W0.heap.size () X Y row h2 hg hr,h3⟩)
  ?assign ?body ?done ?stop
 case assign=>
  rintro l pre x W K ⟨hlf,hkp⟩ hK
  have hinfo:=sec_info (DS.sec D x)
  have HI:=Lib.hid hinfo
  have HLF:=Lib.hid hlf
  have HKP:=Lib.hid hkp
  have HK:=Lib.hid hK
  clear hinfo hlf hkp hK
  unfold encSec
  generalize DS.sec D x=o at *
  gi_wp2_with (refine wpListIn_skipped rfl (fun _ h=>by cases h) rfl (exec_store_row 226 _ _ rfl W.heap.size (secCs o) rfl rfl 226 _ (heap_alloc_last _ _) HI.out.1 HI.out.2.1 HI.out.2.2) ?_;rw[World.setRow_alloc_new])
  exact HK.out _ _ ((KeepsOthers.alloc _ _).from _) (Kp.of_new (NewMem.alloc _ _) (Nat.le_trans (by have:=HZ.out;omega) HKP.out.1.size)) ⟨(Below.heap_alloc _ _ _ (Array.getElem?_eq_some_iff.1 HLF.out).1).trans HLF.out,HKP.out.trans (Kp.of_new (NewMem.alloc _ _) (Nat.le_trans (by have:=HZ.out;omega) HKP.out.1.size))⟩ ⟨W.heap.size,by have:=HKP.out.1.size;omega,heap_alloc_last _ _,rfl⟩
 case body=>
  rintro l pre x a' W hl ⟨r,hr⟩ ⟨hlf,hkp⟩ ⟨Bx,hBx,hcell,rfl⟩ hlt
  have hsn:=greatL_snoc D pre x
  have HSN:=Lib.hid hsn
  have HL:=Lib.hid hlf
  have HKP:=Lib.hid hkp
  unfold DS.great1 at HSN
  have c1:W.cell? ⟨w.heap.size,0,none⟩=some (.int .i64 (DS.greatL D pre:Int)):=by rw[Lib.cell_of_heap hlf];rfl
  have f1:W.frozen? ⟨w.heap.size,0,none⟩=false:=Boxed.frozen (t:=3) (v:=.int .i64 (DS.greatL D pre:Int)) hlf
  cases hs:DS.sec D x with
  | none=>
   rw[hs]at HSN
   clear hcell hlf hkp hr hs hsn
   simp only[Option.isSome_none]
   gi_wp2
   refine⟨KeepsFrom.refl _ _,Kp.refl _ _ _,?_,HKP.out⟩
   rw[HSN.out];exact HL.out
  | some s=>
   rw[hs]at HSN hcell
   have c2:W.cell? ⟨Bx,0,none⟩=some (.int .i64 (s.life:Int)):=by rw[Lib.cell_of_heap hcell];rfl
   clear hcell hlf hkp hr hs hsn
   simp only[Option.isSome_some]
   gi_wp2
   have hm:max (DS.greatL D pre:Int) (s.life:Int)=((max (DS.greatL D pre) s.life:Nat):Int):=by omega
   rw[hm]
   have HM:=Kp.set (n₀:=w.heap.size) (Bd:=w.heap.size+1) (B:=w.heap.size) (Nat.le_refl _) (by omega) W (.int .i64 ((max (DS.greatL D pre) s.life:Nat):Int))
   refine⟨(KeepsOthers.setCell _ _ _).from _,HM,?_,HKP.out.trans HM⟩
   rw[HSN.out]
   exact Boxed.set (t:=3) _ HL.out
 case done=>
  rintro D' ys W hD rfl ⟨hlf,hkp⟩ hK
  have c1:W.cell? ⟨w.heap.size,0,none⟩=some (.int .i64 (DS.greatL D (List.range' 0 (D.sure.length - 0)):Int)):=by rw[Lib.cell_of_heap hlf];rfl
  have HKP:=Lib.hid hkp
  have HKD:=Lib.hid hK
  clear hlf hkp hK
  gi_wp2
  refine⟨by simp,.inl ⟨_,_,rfl,run_takeDeferred HKD.out,?_⟩⟩
  refine⟨_,by simp[results,Tryz.f125,go_sem];rfl,?_⟩
  refine⟨by simp[DS.great],?_⟩
  have hz:=HZ.out
  exact(Below.trans HW.out HKP.out.1).trans (belowK_b (w:=w) (Nat.le_refl _) W D' _ _ (by omega) HKD.out rfl rfl)
 case stop=>
  rintro D' c pre W hD hp h hK
  exact h.elim
end Go.Proofs.YtlmabbigfdbmbaaGreatDoor.Tape
namespace Go.Proofs.YtlmabbigfdbmbaaGreatDoor.Tape
open Go.RowKit Go.Proofs.YtlmabbigfdbmbaaGreatDoor.Ord Go.Proofs.YtlmabbigfdbmbaaGreatDoorW.PrintWords Go.Proofs.YtlmabbigfdbmbaaGreatDoor.Base Go.Proofs.YtlmabbigfdbmbaaGreatDoor.Drum
open Go.Shelf
attribute [local go_sem] Oper.semAt_some rdl_const rdl_func rdl_global rdl_nil rdl_cons
attribute [local irreducible] OpGives
theorem saysN_len{l:List UInt8}{x:Sec}(h:saysN l=some x):x.s.length≤51:=by
 unfold saysN at h
 split at h
 ·cases h
 ·rename_i h1
  split at h
  ·cases h
  ·injection h with h
   subst h
   simp only[List.length_take]
   omega
theorem sec_len{D:DS}{j:Nat}{x:Sec}(h:DS.sec D j=some x):x.s.length≤51:=saysN_len h
def recL(D:DS)(n:Nat):List Nat→Nat→List (List UInt8)→Option (List (List UInt8) × Nat)
 | [],_,_=>none
 | j :: js,life,out=>match DS.sec D j with
  | none=>none
  | some x=>
   if x.record=n∧x.part=out.length∧x.life=(if out.length=0 then x.life else life)then
    if x.last=true then some (out ++ [x.s],x.life)else recL D n js x.life (out ++ [x.s])
   else none
def recV:Option (List (List UInt8) × Nat)→List UInt8 × Nat × Nat
 | none=>([],0,0)
 | some (o,life)=>(o.flatten,life,o.length)
def strs(l:List (List UInt8)):List Value:=l.map fun s=> .string ⟨s.toArray⟩
theorem strs_snoc(l:List (List UInt8))(s:List UInt8):strs (l ++ [s])=strs l ++ [.string ⟨s.toArray⟩]:=by simp[strs]
theorem intersperse_nil:∀ l:List (List UInt8),(List.intersperse [] l).flatten=l.flatten
 | []=>rfl
 | [x]=>rfl
 | x :: y :: l=>by rw[List.intersperse,List.flatten_cons,List.flatten_cons,intersperse_nil (y :: l)]<;>simp
theorem join_nil(l:List (List UInt8)):Lib.join l []=l.flatten:=intersperse_nil l
theorem allocs_size:∀ (os:List Obj) (w:World),(os.foldl World.alloc w).heap.size=w.heap.size+os.length
 | [],w=>rfl
 | o :: os,w=>by rw[List.foldl_cons,allocs_size os,World.size_alloc,List.length_cons];omega
theorem allocs_new:∀ (os:List Obj) (w:World),NewMem w (os.foldl World.alloc w)
 | [],w=>NewMem.refl w
 | o :: os,w=>NewMem.trans (NewMem.alloc w o) (allocs_new os _)
theorem allocs_get:∀ (os:List Obj) (w:World) (i:Nat) (o:Obj),os[i]? = some o→(os.foldl World.alloc w).heap[w.heap.size+i]? = some o
 | [],w,i,o,h=>by simp at h
 | x :: os,w,0,o,h=>by
  have:x=o:=by simpa using h
  subst this
  exact((allocs_new os _).block w.heap.size (by simp)).trans (heap_alloc_last w x)
 | x :: os,w,i+1,o,h=>by
  have:=allocs_get os (w.alloc x) i o (by simpa using h)
  rw[World.size_alloc]at this
  rw[List.foldl_cons,show w.heap.size+(i+1)=w.heap.size+1+i by omega];exact this
theorem flat_len(m:Nat):∀ l:List (List UInt8),(∀ s∈l,s.length≤m)→l.flatten.length≤l.length * m
 | [],_=>by simp
 | x :: l,h=>by
  have h1:=flat_len m l (fun s hs=>h s (List.mem_cons_of_mem _ hs))
  have h2:=h x List.mem_cons_self
  rw[List.flatten_cons,List.length_append,List.length_cons,Nat.add_mul]
  omega
structure RecI(D:DS)(n B B0:Nat)(pre:List Nat)(W:World)(outs:List (List UInt8))(lf:Nat)(v:Value):Prop where
 len:outs.length=pre.length
 rec_:∀ js,recL D n (pre++js) 0 []=recL D n js lf outs
 small:∀ s∈outs,s.length≤51
 box:Boxed W (B+4) 25 v
 row:W.ownsRow B0 9 1 v outs.length (strs outs)
 life:Boxed W (B+5) 3 (.int .i64 (lf:Int))
def RecX(D:DS)(n B:Nat)(pre:List Nat)(W:World):Prop:=
 ∃ r,(∀ js,recL D n (pre++js) 0 []=r)∧Boxed W (B+1) 9 (.string ⟨(recV r).1.toArray⟩)∧Boxed W (B+2) 3 (.int .i64 ((recV r).2.1:Int))∧Boxed W (B+3) 3 (.int .i64 ((recV r).2.2:Int))
theorem row_other{W:World}{B0 j k n cp:Nat}{a:Option Addr}{xs:List Value}{e:TypeId}(h:W.ownsRow B0 e 1 (.slice a n cp) k xs)(hj:j < B0)(u:Value):(W.setCell ⟨j,0,none⟩ u).ownsRow B0 e 1 (.slice a n cp) k xs:=by
 refine h.kept (grownBy_setCell' W j u) ?_
 rcases h.2 with ⟨e,_⟩ | ⟨g',cp',cur,e,hb,hgb,_⟩
 ·exact .inl (by rw[e];rfl)
 ·exact .inr (by rw[e];simp[Value.ownBlock];omega)
theorem rec_push{W:World}{B B0 k cp:Nat}{a:Option Addr}{outs:List (List UInt8)}(s:List UInt8)(h4:Boxed W (B+4) 25 (.slice a k cp))(hrow:W.ownsRow B0 9 1 (.slice a k cp) k (strs outs))(hB0:B+8≤B0)(hB0':B0≤W.heap.size)(hk:k≤5000) :
  ∃ g cap W1 W2,(Builtin.append_ #[25,25] 25 #[.slice a k cp,.slice (some ⟨W.heap.size,0,none⟩) 1 1]).run Tryz.prog (W.alloc (.cells #[.string ⟨s.toArray⟩] 9)) = .ok (.slice (some ⟨g,0,none⟩) (k+1) cap) W1∧
   (∀ (j:Nat) cs t (fr:Nat × Nat),W.heap[j]? = some (Obj.cells cs t fr)→t≠9→W1.heap[j]? = some (Obj.cells cs t fr))∧Boxed W1 (B+4) 25 (.slice a k cp)∧W2=W1.setCell ⟨B+1+1+1+1,0,none⟩ (.slice (some ⟨g,0,none⟩) (k+1) cap)∧
   Boxed W2 (B+4) 25 (.slice (some ⟨g,0,none⟩) (k+1) cap)∧W2.ownsRow B0 9 1 (.slice (some ⟨g,0,none⟩) (k+1) cap) (k+1) (strs (outs ++ [s]))∧KeepsOthers W W2∧Below (B+4) W W2∧
   (∀ j cs t fr,W.heap[j]? = some (.cells cs t fr)→t≠9→j≠B+4→W2.heap[j]? = some (.cells cs t fr))∧(∀ j o,j < B0→j≠B+4→W.heap[j]? = some o→W2.heap[j]? = some o):=by
 have hi:(Tryz.prog.info? 9).map (fun i=>(i.zero,i.size,i.bytes))=some (some (Value.string ⟨#[]⟩),1,16):=by kernel_rfl
 obtain⟨i0,hi0,hz0,hz1,hz2⟩:=info_parts hi
 have hrow1:(W.alloc (.cells #[.string ⟨s.toArray⟩] 9)).ownsRow B0 9 1 (.slice a k cp) k (strs outs):=hrow.alloc _
 obtain⟨v',W1,hr,hown,hg,_⟩:=run_append_own (P:=Tryz.prog) (W.alloc (.cells #[.string ⟨s.toArray⟩] 9)) B0 25 25 9 i0 _ 1 16 Tryz.underlying25 hi0 hz0 hz1 hz2 rfl (by decide) (.slice a k cp) k (strs outs) hrow1 ⟨W.heap.size,0,none⟩ 1 1 [.string ⟨s.toArray⟩] rfl
  (World.news_of_block (by simpa using heap_alloc_last W (.cells #[.string ⟨s.toArray⟩] 9))) (fun u hu=>by rw[List.mem_singleton.1 hu];rfl) (by unfold maxLen;omega) (by omega) (by rw[World.size_alloc];omega)
 obtain⟨g,cap,rfl⟩:=ownsRow_succ hown
 have hblk:∀ j,(Value.slice a k cp).ownBlock=some j→B0≤j∧∃ cs fr,W.heap[j]? = some (.cells cs 9 fr):=fun j hj=>by
  rcases hrow.2 with ⟨e,_⟩ | ⟨g',cp',cur,e,hb,hgb,_⟩
  ·rw[e]at hj;simp[Value.ownBlock]at hj
  ·rw[e]at hj
   have:g'=j:=by simpa [Value.ownBlock] using hj
   subst this
   exact⟨hb,_,_,hgb⟩
 have hfar:∀ j o,W.heap[j]? = some o→(Value.slice a k cp).ownBlock≠some j→W1.heap[j]? = some o:=fun j o ho hne=>
  (hg.block j (by rw[World.size_alloc];have:=(Array.getElem?_eq_some_iff.1 ho).1;omega) (fun e=>hne e.symm)).trans ((Below.heap_alloc W _ _ (Array.getElem?_eq_some_iff.1 ho).1).trans ho)
 have hlow:∀ j,j < B0→(Value.slice a k cp).ownBlock≠some j:=fun j hj e=>by have:=(hblk j e).1;omega
 have x1:Boxed W1 (B+4) 25 (.slice a k cp):=hfar _ _ h4 (hlow _ (by omega))
 have hset:∀ j o,W1.heap[j]? = some o→j≠B+4→(W1.setCell ⟨B+1+1+1+1,0,none⟩ (.slice (some ⟨g,0,none⟩) (k+1) cap)).heap[j]? = some o:=fun j o ho hne=>(Below.heap_setCell W1 _ _ j hne).trans ho
 have hgge:B0≤g:=by
  rcases hown.2 with ⟨e,_⟩ | ⟨g',cp',cur,e,hb,hgb,_⟩
  ·cases e
  ·injection e with e1 _ _
   injection e1 with e1
   injection e1 with e1
   subst e1;exact hb
 refine⟨g,cap,W1,_,hr,(fun j cs t fr ho hne=>hfar j _ ho fun e=>by obtain⟨_,cs',fr',h⟩:=hblk j e;rw[ho]at h;cases h;exact hne rfl),x1,rfl,x1.set _,?_,⟨?_,fun j o ho hnc=>?_⟩,?_,fun j cs t fr ho hne hj=>?_,fun j o hj hne ho=>?_⟩
 ·have:=hown.kept (grownBy_setCell' W1 (B+4) (.slice (some ⟨g,0,none⟩) (k+1) cap)) (.inr (by simp[Value.ownBlock];omega))
  rw[strs_snoc];exact this
 ·have:=hg.size;rw[World.size_alloc]at this;simp;omega
 ·refine hset j o (hfar j o ho fun e=>?_) fun e=>?_
  ·obtain⟨_,cs,fr,h⟩:=hblk j e;rw[ho]at h;cases h;cases hnc
  ·subst e;rw[h4]at ho;cases ho;cases hnc
 ·exact(((Below.refl (B+4) W).alloc (by omega) _).grown hg (by simp;omega) (fun j ej=>by have:=(hblk j ej).1;omega)).setCell (p:=⟨B+4,0,none⟩) (Nat.le_refl _) _
 ·exact hset j _ (hfar j _ ho fun e=>by obtain⟨_,cs',fr',h⟩:=hblk j e;rw[ho]at h;cases h;exact hne rfl) hj
 ·exact hset j o (hfar j o ho (hlow j hj)) hne
theorem app_op{W W1:World}{s x v:Value}{ty:TypeId}(hr:(Builtin.append_ #[ty,ty] ty #[s,x]).run Tryz.prog W = .ok v W1)(i j:Tmp)(ρ:Operand→Value)(o:Oper)(h1:o.op = .call { callee:=.builtin .append,args:=#[.tmp i,.tmp j],argTypes:=#[ty,ty] })(h2:o.type=ty)(h3:ρ (.tmp i)=s)(h4:ρ (.tmp j)=x) :
  (execOp ρ o).run Tryz.prog W = .ok (.value v) W1:=exec_append (.tmp i) (.tmp j) ty h1 (by rw[h2,h3,h4];exact hr)
theorem join_at{W:World}{B0 g cap k:Nat}{l:List (List UInt8)}(h:W.ownsRow B0 9 1 (.slice (some ⟨g,0,none⟩) k cap) k (strs l))(hk:l.length=k)(hs:∀ s∈l,s.length≤51)(hl:l.length≤5000) :
  Calls Tryz.prog 160 #[.slice (some ⟨g,0,none⟩) k cap,.string (⟨#[]⟩:ByteArray)] W fun e w'=>e = .returned (.string ⟨l.flatten.toArray⟩)∧NewMem W w':=by
 subst hk
 have hxl:(l.map fun s=>(⟨s.toArray⟩:ByteArray)).length=l.length:=by simp
 have hfl:((l.map fun s=>(⟨s.toArray⟩:ByteArray)).map (·.data.toList))=l:=by rw[List.map_map];simp[Function.comp_def]
 have hlen:(Lib.join l []).length≤140737488355328:=by rw[join_nil];have:=flat_len 51 l hs;omega
 have hc:=h.cells rfl
 have hcap:l.length≤cap:=by
  rcases h.2 with ⟨e,_⟩ | ⟨g',cp',cur,e,hb,hgb,hle,hrest⟩
  ·cases e
  ·injection e with e1 e2 e3
   subst e3;omega
 have hcells:∀ (j:Nat) x,(l.map fun s=>(⟨s.toArray⟩:ByteArray))[j]? = some x→W.cell? ⟨g,0+j,none⟩=some (.string x):=fun j x hx=>by
  have h2:(strs l)[j]? = some (.string x):=by
   unfold strs
   rw[List.getElem?_map]at hx ⊢
   cases hl:l[j]? with
   | none=>rw[hl]at hx;cases hx
   | some s=>rw[hl]at hx;simp only[Option.map_some]at hx ⊢;injection hx with hx;rw[hx]
  have h3:=hc j _ h2
  have hadd:(⟨g,0,none⟩:Addr).add j=⟨g,0+j,none⟩:=by unfold Addr.add;split<;>simp_all
  rw[hadd]at h3
  exact h3
 have:=Tryz.strings_Join g 0 cap (l.map fun s=>(⟨s.toArray⟩:ByteArray)) ⟨#[]⟩ W hcells (own_lt h) (by rw[hxl];omega) (by rw[hxl];exact hcap) (by rw[hfl];exact hlen)
 rw[hfl,hxl]at this
 refine this.mono ?_
 rintro e w' ⟨he,hb⟩
 exact⟨by rw[he,← join_nil l],hb⟩
theorem own_ge{W:World}{B0 k:Nat}{e:TypeId}{s n:Nat}{v:Value}{xs:List Value}(h:W.ownsRow B0 e s v n xs)(hk:v.ownBlock=some k):B0≤k:=by
 rcases h.2 with ⟨e,_⟩ | ⟨g',cp',cur,e,hb,hgb,_⟩
 ·rw[e]at hk;simp[Value.ownBlock]at hk
 ·rw[e]at hk
  have:g'=k:=by simpa [Value.ownBlock] using hk
  omega
structure ThreeS(w2:World)(B:Nat)(a b c:Value)(L:Nat→Bool)(W:World):Prop where
 mod:Mod (fun k=>k=B+1∨k=B+2∨k=B+3) w2 W
 one:∃ u,Boxed W (B+1) 9 u∧(L 5=true→u=a)
 two:∃ u,Boxed W (B+2) 3 u∧(L 6=true→u=b)
 three:∃ u,Boxed W (B+3) 3 u∧(L 7=true→u=c)
theorem ThreeS.new{w2 W W':World}{B:Nat}{a b c:Value}{L:Nat→Bool}(h:ThreeS w2 B a b c L W)(hn:NewMem W W')(i:Nat)(hi:i < 5):ThreeS w2 B a b c (fun k=>if k=i then true else L k) W':=by
 obtain⟨hm,⟨u1,x1,y1⟩,⟨u2,x2,y2⟩,⟨u3,x3,y3⟩⟩:=h
 exact⟨hm.trans (Mod.of_below (F:=fun _=>False) hn) (fun _ h=>h.elim),⟨u1,(hn.block _ x1.lt).trans x1,fun e=>y1 (by rwa [if_neg (by omega)]at e)⟩,⟨u2,(hn.block _ x2.lt).trans x2,fun e=>y2 (by rwa [if_neg (by omega)]at e)⟩,⟨u3,(hn.block _ x3.lt).trans x3,fun e=>y3 (by rwa [if_neg (by omega)]at e)⟩⟩
theorem ThreeS.set1{w2 W:World}{B:Nat}{a b c:Value}{L:Nat→Bool}(h:ThreeS w2 B a b c L W):ThreeS w2 B a b c (fun k=>if k=5 then true else L k) (W.setCell ⟨B+1,0,none⟩ a):=by
 obtain⟨hm,⟨u1,x1,y1⟩,⟨u2,x2,y2⟩,⟨u3,x3,y3⟩⟩:=h
 exact⟨hm.trans (Mod.setCell (F:=fun k=>k=B+1) _ _ _ rfl) (fun i h=> .inl (.inl h)),⟨a,x1.set _,fun _=>rfl⟩,⟨u2,x2.other (by omega) _,fun e=>y2 (by rwa [if_neg (by omega)]at e)⟩,⟨u3,x3.other (by omega) _,fun e=>y3 (by rwa [if_neg (by omega)]at e)⟩⟩
theorem ThreeS.set2{w2 W:World}{B:Nat}{a b c:Value}{L:Nat→Bool}(h:ThreeS w2 B a b c L W):ThreeS w2 B a b c (fun k=>if k=6 then true else L k) (W.setCell ⟨B+1+1,0,none⟩ b):=by
 obtain⟨hm,⟨u1,x1,y1⟩,⟨u2,x2,y2⟩,⟨u3,x3,y3⟩⟩:=h
 exact⟨hm.trans (Mod.setCell (F:=fun k=>k=B+2) _ _ _ rfl) (fun i h=> .inl (.inr (.inl h))),⟨u1,x1.other (by omega) _,fun e=>y1 (by rwa [if_neg (by omega)]at e)⟩,⟨b,x2.set _,fun _=>rfl⟩,⟨u3,x3.other (by omega) _,fun e=>y3 (by rwa [if_neg (by omega)]at e)⟩⟩
theorem ThreeS.set3{w2 W:World}{B:Nat}{a b c:Value}{L:Nat→Bool}(h:ThreeS w2 B a b c L W):ThreeS w2 B a b c (fun k=>if k=7 then true else L k) (W.setCell ⟨B+1+1+1,0,none⟩ c):=by
 obtain⟨hm,⟨u1,x1,y1⟩,⟨u2,x2,y2⟩,⟨u3,x3,y3⟩⟩:=h
 exact⟨hm.trans (Mod.setCell (F:=fun k=>k=B+3) _ _ _ rfl) (fun i h=> .inl (.inr (.inr h))),⟨u1,x1.other (by omega) _,fun e=>y1 (by rwa [if_neg (by omega)]at e)⟩,⟨u2,x2.other (by omega) _,fun e=>y2 (by rwa [if_neg (by omega)]at e)⟩,⟨c,x3.set _,fun _=>rfl⟩⟩
theorem three_exit{D:DS}{n B B0:Nat}{pre:List Nat}{w2 W Wb w:World}{r:Option (List (List UInt8) × Nat)}{a b c u1 u2 u3:Value}{L:Nat→Bool}(h:ThreeS w2 B a b c L W)(h5:L 5=true)(h6:L 6=true)(h7:L 7=true)(h1:Boxed w2 (B+1) 9 u1)(h2:Boxed w2 (B+2) 3 u2)(h3:Boxed w2 (B+3) 3 u3)
  (hr:∀ js,recL D n (pre++js) 0 []=r) (hk:KeepsFrom B0 Wb w2) (hw:Below B w w2) (ha:a = .string ⟨(recV r).1.toArray⟩) (hb:b = .int .i64 ((recV r).2.1:Int)) (hc:c = .int .i64 ((recV r).2.2:Int)) :
  KeepsFrom B0 Wb W∧(Code.ret = .ret∧RecX D n B pre W)∧Below B w W:=by
 obtain⟨hm,⟨v1,x1,y1⟩,⟨v2,x2,y2⟩,⟨v3,x3,y3⟩⟩:=h
 have e1:=(y1 h5).trans ha
 have e2:=(y2 h6).trans hb
 have e3:=(y3 h7).trans hc
 subst e1;subst e2;subst e3
 refine⟨hk.trans (KeepsOthers.from (show KeepsOthers w2 W from⟨hm.size,fun k o ho hnc=>?_⟩) _),⟨rfl,r,hr,x1,x2,x3⟩,hw.trans (hm.below (by have:=h1.lt;omega) (fun i hi=>by omega))⟩
 refine(hm.block k (Array.getElem?_eq_some_iff.1 ho).1 ?_).trans ho
 rintro(rfl | rfl | rfl)
 ·rw[show w2.heap[B+1]? = _ from h1]at ho;cases ho;cases hnc
 ·rw[show w2.heap[B+2]? = _ from h2]at ho;cases ho;cases hnc
 ·rw[show w2.heap[B+3]? = _ from h3]at ho;cases ho;cases hnc
end Go.Proofs.YtlmabbigfdbmbaaGreatDoor.Tape
namespace Go.Proofs.YtlmabbigfdbmbaaGreatDoor.Tape
open Go.RowKit Go.Proofs.YtlmabbigfdbmbaaGreatDoor.Ord Go.Proofs.YtlmabbigfdbmbaaGreatDoorW.PrintWords Go.Proofs.YtlmabbigfdbmbaaGreatDoor.Base Go.Proofs.YtlmabbigfdbmbaaGreatDoor.Drum
open Go.Shelf
attribute [local go_sem] Oper.semAt_some rdl_const rdl_func rdl_global rdl_nil rdl_cons
attribute [local irreducible] OpGives
theorem rec_exit{D:DS}{n B B0:Nat}{pre:List Nat}{W Wb w:World}{r:Option (List (List UInt8) × Nat)}{u1 u2 u3:Value}(h1:Boxed W (B+1) 9 u1)(h2:Boxed W (B+2) 3 u2)(h3:Boxed W (B+3) 3 u3)(hr:∀ js,recL D n (pre++js) 0 []=r)
  (hk:KeepsFrom B0 Wb W) (hw:Below B w W) (a b c:Value) (ha:a = .string ⟨(recV r).1.toArray⟩) (hb:b = .int .i64 ((recV r).2.1:Int)) (hc:c = .int .i64 ((recV r).2.2:Int)) :
  KeepsFrom B0 Wb (((W.setCell ⟨B+1,0,none⟩ a).setCell ⟨B+1+1,0,none⟩ b).setCell ⟨B+1+1+1,0,none⟩ c)∧(Code.ret = .ret∧RecX D n B pre (((W.setCell ⟨B+1,0,none⟩ a).setCell ⟨B+1+1,0,none⟩ b).setCell ⟨B+1+1+1,0,none⟩ c))∧
   Below B w (((W.setCell ⟨B+1,0,none⟩ a).setCell ⟨B+1+1,0,none⟩ b).setCell ⟨B+1+1+1,0,none⟩ c):=by
 subst ha;subst hb;subst hc
 refine⟨hk.trans ((((KeepsOthers.setCell _ _ _).trans (KeepsOthers.setCell _ _ _)).trans (KeepsOthers.setCell _ _ _)).from _),⟨rfl,r,hr,?_,?_,?_⟩,((hw.setCell (p:=⟨B+1,0,none⟩) (by simp) _).setCell (p:=⟨B+1+1,0,none⟩) (by simp;omega) _).setCell (p:=⟨B+1+1+1,0,none⟩) (by simp;omega) _⟩
 ·exact((h1.set _).other (by omega) _).other (by omega) _
 ·exact((h2.other (B':=B+1) (by omega) _).set _).other (by omega) _
 ·exact((h3.other (B':=B+1) (by omega) _).other (B':=B+1+1) (by omega) _).set _
def recOs(b at_ n:Nat):List Obj:=[.cells #[.int .i64 (n:Int)] 3,.cells #[.string ByteArray.empty] 9,.cells #[.int .i64 0] 3,.cells #[.int .i64 0] 3,.cells #[.slice none 0 0] 25,.cells #[.int .i64 0] 3,.cells #[.pointer (some ⟨b,0,none⟩)] 57,.cells #[.int .i64 (at_:Int)] 3]
theorem recI_own(D:DS)(n B B0:Nat){C:Nat} : OwnFrom C (fun(pre:List Nat) W=>∃ outs lf v,RecI D n B B0 pre W outs lf v):=by
 rintro pre X Y row ⟨outs,lf,v,h⟩ hg hr
 have hb:=block_own (β:=Unit) (B+4) #[v] 25 (0,0) C () X Y row h.box hg hr
 have hl:=block_own (β:=Unit) (B+5) #[.int .i64 (lf:Int)] 3 (0,0) C () X Y row h.life hg hr
 refine⟨outs,lf,v,h.len,h.rec_,h.small,hb,h.row.kept hg ?_,hl⟩
 rcases h.row.2 with ⟨e,_⟩ | ⟨g,cap,cur,e,_,hgb,_⟩
 ·exact .inl (by rw[e];rfl)
 ·refine .inr fun e'=>?_
  rw[e]at e'
  obtain⟨_,o,ho,hc⟩:=hr g (by simpa [Value.ownBlock] using e'.symm)
  rw[hgb]at ho;cases ho;cases hc
theorem recX_own(D:DS)(n B:Nat){C:Nat} : OwnFrom C (fun(pre:List Nat) W=>RecX D n B pre W):=by
 rintro pre X Y row ⟨r,h,h1,h2,h3⟩ hg hr
 exact⟨r,h,block_own (β:=Unit) _ _ _ _ C () X Y row h1 hg hr,block_own (β:=Unit) _ _ _ _ C () X Y row h2 hg hr,block_own (β:=Unit) _ _ _ _ C () X Y row h3 hg hr⟩
set_option maxRecDepth 100000 in
set_option maxHeartbeats 8000000 in
theorem record_at(b sb cap:Nat)(lv:Value)(D:DS)(at_ n:Nat)(w:World)(h:DrumAt w b sb cap lv D)(hd:D.down=false)(hn:D.loose.length≤1000000)(hat:at_≤D.sure.length) :
  Calls Tryz.prog 124 #[.pointer (some ⟨b,0,none⟩),.int .i64 (at_:Int),.int .i64 (n:Int)] w fun e w'=>
   e = .returned (.tuple #[.string ⟨(recV (recL D n (List.range' at_ (D.sure.length - at_)) 0 [])).1.toArray⟩,.int .i64 ((recV (recL D n (List.range' at_ (D.sure.length - at_)) 0 [])).2.1:Int),.int .i64 ((recV (recL D n (List.range' at_ (D.sure.length - at_)) 0 [])).2.2:Int)])∧NewMem w w':=by
 obtain⟨W0,hW0⟩:∃ W0,(recOs b at_ n).foldl World.alloc w=W0:=⟨_,rfl⟩
 have hz:W0.heap.size=w.heap.size+8:=by rw[← hW0,allocs_size];rfl
 have hw0:NewMem w W0:=by rw[← hW0];exact allocs_new _ _
 have bx:∀ i o,(recOs b at_ n)[i]? = some o→W0.heap[w.heap.size+i]? = some o:=fun i o h=>by rw[← hW0];exact allocs_get _ _ _ _ h
 have b0:Boxed W0 w.heap.size 3 (.int .i64 (n:Int)):=bx 0 _ rfl
 have b1:Boxed W0 (w.heap.size+1) 9 (.string ByteArray.empty):=bx 1 _ rfl
 have b2:Boxed W0 (w.heap.size+2) 3 (.int .i64 0):=bx 2 _ rfl
 have b3:Boxed W0 (w.heap.size+3) 3 (.int .i64 0):=bx 3 _ rfl
 have b4:Boxed W0 (w.heap.size+4) 25 (.slice none 0 0):=bx 4 _ rfl
 have b5:Boxed W0 (w.heap.size+5) 3 (.int .i64 0):=bx 5 _ rfl
 have b6:Boxed W0 (w.heap.size+6) 57 (.pointer (some ⟨b,0,none⟩)):=bx 6 _ rfl
 have b7:Boxed W0 (w.heap.size+7) 3 (.int .i64 (at_:Int)):=bx 7 _ rfl
 clear bx
 have hblk:∀ k,lv.ownBlock=some k→k < w.heap.size+4:=fun k hk=>by
  rcases h.loose.2 with ⟨e,_⟩ | ⟨g,cp,cur,e,_,hg,_⟩
  ·rw[e]at hk;simp[Value.ownBlock]at hk
  ·rw[e]at hk
   have:g=k:=by simpa [Value.ownBlock] using hk
   subst this
   have:=(Array.getElem?_eq_some_iff.1 hg).1
   omega
 have hlow:DrumLow (w.heap.size+4) W0 b D:=⟨⟨sb,cap,lv,h.kept (F:=fun _=>False) (Mod.of_below hw0) (fun _ _=>id),by have:=own_lt h.sure;omega,hblk⟩,by have:=(Array.getElem?_eq_some_iff.1 h.cell).1;omega,hd,hn⟩
 have hfew:=h.few
 have stops:=sectors_stops (30 - 1) (by decide) (w.heap.size+1+1+1+1+1+1+1) (w.heap.size+1+1+1+1+1+1) (w.heap.size+4) b at_ D W0 (by omega) b7 b6 hlow hat
 have STOPS:=Lib.hid stops
 have HW0:=Lib.hid hW0
 have HW:=Lib.hid hw0
 have HZ:=Lib.hid hz
 have B0:=Lib.hid b0
 have B1:=Lib.hid b1
 have B2:=Lib.hid b2
 have B3:=Lib.hid b3
 have B4:=Lib.hid b4
 have B5:=Lib.hid b5
 have HFEW:=Lib.hid hfew
 have HAT:=Lib.hid hat
 clear stops hW0 hw0 hz b0 b1 b2 b3 b4 b5 b6 b7 hblk hlow h hd hn hfew hat
 refine(callsIn_wide (n:=30)).1 ?_
 refine callsIn_of_wp_marks Tryz.func124 rfl trivial ?_ rfl
 simp only[Tryz.ntmps124,List.size_toArray,List.length_cons,List.length_nil,Nat.reduceAdd,Nat.reduceSub,Array.replicate_succ,Array.replicate_zero,List.push_toArray,List.append_toArray,List.nil_append,List.cons_append]
 gi_wp2_with (refine⟨trivial,?_⟩;gi_at_call 159;refine(sectors_in Fence.wide _ trivial rfl _ _ _ rfl rfl).mono ?_;rintro e w' ⟨rfl,rfl⟩)
 change Code.wpIn _ _ _ _ _ _ ((recOs b at_ n).foldl World.alloc w)
 rw[HW0.out]
 refine wpIn_rangeFunc_ownH rfl (by decide) (gf:=188) (lb:=#[.pointer (some ⟨w.heap.size+1+1+1+1+1+1+1,0,none⟩),.pointer (some ⟨w.heap.size+1+1+1+1+1+1,0,none⟩)]) rfl trivial (enters_of Tryz.func188 (by kernel_rfl) rfl)
  STOPS.out (fun h k=>Kp.trans h k) (fun W l o o' hl h h1 h2=>Kp.put (w:=W0) (by have:=HZ.out;omega) (by have:=HZ.out;omega) W l o o' hl h h1 h2) (Below.refl _ _) (by intro x;rfl)
  (fun pre W=>(∃ outs lf v,RecI D n w.heap.size W0.heap.size pre W outs lf v)∧Kp (w.heap.size+4) (w.heap.size+6) W0 W)
  (fun c pre W=>(c = .ret∧RecX D n w.heap.size pre W)∧Below w.heap.size w W)
  (OwnFrom.and (recI_own _ _ _ _) (kp_own (by have:=HZ.out;omega) (by have:=HZ.out;omega) (by have:=HZ.out;omega)))
  (fun c=>OwnFrom.and (fun s A B row h hg hr=>⟨h.1,recX_own (C:=W0.heap.size) D n w.heap.size s A B row h.2 hg hr⟩) (ownFrom_below (Nat.le_refl _) (by have:=HZ.out;omega)))
  ⟨⟨[],0,.slice none 0 0,rfl,fun js=>rfl,(fun s hs=>by cases hs),B4.out,⟨rfl,.inl ⟨rfl,rfl⟩⟩,B5.out⟩,Kp.refl _ _ _⟩
  (fun x a' W=>∃ Bx,W0.heap.size≤Bx∧W.heap[Bx]? = some (.cells (secCs (DS.sec D x)) 226 (0,0))∧a' = { tmps:=#[Value.pointer (some { block:=b,off:=0 }),Value.int IntKind.i64 at_,Value.int IntKind.i64 n,undef,
     undef,Value.pointer (some { block:=w.heap.size,off:=0 }),
     Value.pointer (some { block:=w.heap.size+1,off:=0 }),
     Value.pointer (some { block:=w.heap.size+1+1,off:=0 }),
     Value.pointer (some { block:=w.heap.size+1+1+1,off:=0 }),
     Value.pointer (some { block:=w.heap.size+1+1+1+1,off:=0 }),
     Value.pointer (some { block:=w.heap.size+1+1+1+1+1,off:=0 }),Value.pointer (some { block:=Bx,off:=0 }),.bool (DS.sec D x).isSome,undef,
     Value.pointer (some { block:=b,off:=0 }),Value.int IntKind.i64 at_,
     Value.func (Fn.func 188) #[]
      #[Value.pointer (some { block:=w.heap.size+1+1+1+1+1+1+1,off:=0 }),
       Value.pointer (some { block:=w.heap.size+1+1+1+1+1+1,off:=0 })],
     .agg (secCs (DS.sec D x)),.bool (DS.sec D x).isSome,undef,undef,undef,undef,undef,undef,undef,undef,undef,undef,undef,undef,undef,undef,undef,undef,undef,undef,undef,undef,undef,undef,undef,undef,undef,undef,undef,undef,undef,undef,undef,undef,undef,undef,undef,undef,undef,undef],defers:=[] })
  (fun x a' s X Y row hs hg hr=>by obtain⟨Bx,h1,h2,h3⟩:=hs;exact⟨Bx,h1,block_own _ _ _ _ W0.heap.size () X Y row h2 hg hr,h3⟩)
  ?assign ?body ?done ?stop
 case assign=>
  rintro l pre x W K ⟨hlf,hkp⟩ hK
  have hinfo:=sec_info (DS.sec D x)
  have HI:=Lib.hid hinfo
  have HLF:=Lib.hid hlf
  have HKP:=Lib.hid hkp
  have HK:=Lib.hid hK
  clear hinfo hlf hkp hK
  unfold encSec
  generalize DS.sec D x=o at *
  gi_wp2_with (refine wpListIn_skipped rfl (fun _ h=>by cases h) rfl (exec_store_row 226 _ _ rfl W.heap.size (secCs o) rfl rfl 226 _ (heap_alloc_last _ _) HI.out.1 HI.out.2.1 HI.out.2.2) ?_;rw[World.setRow_alloc_new])
  have hsz:w.heap.size+4≤W.heap.size:=Nat.le_trans (by have:=HZ.out;omega) HKP.out.1.size
  exact HK.out _ _ ((KeepsOthers.alloc _ _).from _) (Kp.of_new (NewMem.alloc _ _) hsz) ⟨recI_own D n w.heap.size W0.heap.size (C:=0) pre W _ none HLF.out (World.grownBy_alloc W _ none) (fun r e=>by cases e),HKP.out.trans (Kp.of_new (NewMem.alloc _ _) hsz)⟩ ⟨W.heap.size,HKP.out.1.size,heap_alloc_last _ _,rfl⟩
 case body=>
  rintro l pre x a' W hl ⟨r,hr⟩ ⟨⟨outs,lf,v,hI⟩,hkp⟩ ⟨Bx,hBx,hcell,rfl⟩ hlt
  have hN:outs.length≤4096:=by have:=hI.len;have:=HFEW.out;omega
  obtain⟨a,cp,hv⟩:∃ a cp,v = .slice a outs.length cp:=by
   rcases hI.row.2 with ⟨e,h0⟩ | ⟨g,cp,cur,e,_⟩
   ·exact⟨none,0,by rw[e,h0]⟩
   ·exact⟨_,cp,e⟩
  subst hv
  have q0:Boxed W w.heap.size 3 (.int .i64 (n:Int)):=(hkp.1.block _ (by omega)).trans B0.out
  have q1:Boxed W (w.heap.size+1) 9 (.string ByteArray.empty):=(hkp.1.block _ (by omega)).trans B1.out
  have q2:Boxed W (w.heap.size+1+1) 3 (.int .i64 0):=(hkp.1.block _ (by omega)).trans B2.out
  have q3:Boxed W (w.heap.size+1+1+1) 3 (.int .i64 0):=(hkp.1.block _ (by omega)).trans B3.out
  have c0:=q0.cell
  have c1:=q1.cell
  have c2:=q2.cell
  have c3:=q3.cell
  have f1:=q1.frozen
  have f2:=q2.frozen
  have f3:=q3.frozen
  have c4:W.cell? ⟨w.heap.size+1+1+1+1,0,none⟩=some (.slice a outs.length cp):=hI.box.cell
  have f4:W.frozen? ⟨w.heap.size+1+1+1+1,0,none⟩=false:=hI.box.frozen
  have c5:W.cell? ⟨w.heap.size+1+1+1+1+1,0,none⟩=some (.int .i64 (lf:Int)):=hI.life.cell
  have f5:W.frozen? ⟨w.heap.size+1+1+1+1+1,0,none⟩=false:=hI.life.frozen
  have hB:Below w.heap.size w W:=Below.trans HW.out (hkp.1.mono (by omega))
  have hstep:∀ js,recL D n (pre ++ [x]++js) 0 []=recL D n (x :: js) lf outs:=fun js=>by rw[List.append_assoc];exact hI.rec_ _
  have Q1:=Lib.hid q1
  have Q2:=Lib.hid q2
  have Q3:=Lib.hid q3
  have HI:=Lib.hid hI
  have HKP:=Lib.hid hkp
  have HBB:=Lib.hid hB
  have HST:=Lib.hid hstep
  have HN:=Lib.hid hN
  clear q0 q1 q2 q3 hI hkp hB hstep hr hl hlt hN
  cases hs:DS.sec D x with
  | none=>
   rw[hs]at hcell
   have d0:W.cell? ⟨Bx,0,none⟩=some (.int .i64 0):=by rw[Lib.cell_of_heap hcell];rfl
   have HS:=Lib.hid hs
   clear hcell hs
   simp only[Option.isSome_none]
   by_cases h0:outs.length=0
   ·gi_wp2
    refine rec_exit (r:=none) (W:=(W.setCell ⟨w.heap.size+5,0,none⟩ (.int .i64 (0:Int)))) (Q1.out.other (B':=w.heap.size+5) (by omega) _) (Q2.out.other (B':=w.heap.size+5) (by omega) _) (Q3.out.other (B':=w.heap.size+5) (by omega) _) (fun js=>?_) ((KeepsOthers.setCell _ _ _).from _) (HBB.out.setCell (p:=⟨w.heap.size+5,0,none⟩) (by simp) _) _ _ _ rfl rfl rfl
    rw[HST.out];simp[recL,HS.out]
   ·gi_wp2
    refine rec_exit (r:=none) (W:=W) Q1.out Q2.out Q3.out (fun js=>?_) (KeepsFrom.refl _ _) HBB.out _ _ _ rfl rfl rfl
    rw[HST.out];simp[recL,HS.out]
  | some s=>
   obtain⟨life,record,part,last,str⟩:=s
   rw[hs]at hcell
   have d0:W.cell? ⟨Bx,0,none⟩=some (.int .i64 (life:Int)):=by rw[Lib.cell_of_heap hcell];rfl
   have d1:W.cell? ⟨Bx,1,none⟩=some (.int .i64 (record:Int)):=by rw[Lib.cell_of_heap hcell];rfl
   have d2:W.cell? ⟨Bx,2,none⟩=some (.int .i64 (part:Int)):=by rw[Lib.cell_of_heap hcell];rfl
   have d3:W.cell? ⟨Bx,3,none⟩=some (.bool last):=by rw[Lib.cell_of_heap hcell];rfl
   have d4:W.cell? ⟨Bx,4,none⟩=some (.string ⟨str.toArray⟩):=by rw[Lib.cell_of_heap hcell];rfl
   have hbx:¬ Bx=w.heap.size+1+1+1+1+1:=by have:=HZ.out;omega
   have hbx':¬ w.heap.size+1+1+1+1+1=Bx:=by omega
   have HS:=Lib.hid hs
   have HCELL:=Lib.hid hcell
   clear hcell hs
   simp only[Option.isSome_some]
   by_cases h0:outs.length=0
   ·skip
    by_cases h1:record=n
    ·by_cases h2:part=outs.length
     ·skip
      obtain⟨gb,cap,W1,W2,hr,yt,y4,e2,z4,zrow,zk,zb,zt,zo⟩:=rec_push (W:=(W.setCell ⟨w.heap.size+1+1+1+1+1,0,none⟩ (.int .i64 (life:Int)))) (B:=w.heap.size) (B0:=W0.heap.size) str (HI.out.box.other (B':=w.heap.size+5) (by omega) _) (row_other (j:=w.heap.size+5) HI.out.row (by have:=HZ.out;omega) _) (by have:=HZ.out;omega) (Nat.le_trans HKP.out.1.size (by simp)) (by have:=HN.out;omega)
      have hbx5:(W.setCell ⟨w.heap.size+1+1+1+1+1,0,none⟩ (.int .i64 (life:Int))).heap[Bx]? = some (.cells (secCs (some ⟨life,record,part,last,str⟩)) 226 (0,0)):=(Below.heap_setCell W _ _ Bx (by have:=HZ.out;omega)).trans HCELL.out
      have k5:(W.setCell ⟨w.heap.size+1+1+1+1+1,0,none⟩ (.int .i64 (life:Int))).heap[w.heap.size+5]? = some (.cells #[.int .i64 (life:Int)] 3 (0,0)):=Boxed.set (t:=3) _ HI.out.life
      have kw1:KeepsFrom W0.heap.size W (W.setCell ⟨w.heap.size+1+1+1+1+1,0,none⟩ (.int .i64 (life:Int))):=(KeepsOthers.setCell _ _ _).from _
      have kw2:Kp (w.heap.size+4) (w.heap.size+6) W (W.setCell ⟨w.heap.size+1+1+1+1+1,0,none⟩ (.int .i64 (life:Int))):=Kp.set (B:=w.heap.size+5) (by omega) (by omega) W _
      have x3:W1.cell? ⟨Bx,3,none⟩=some (.bool last):=by rw[Lib.cell_of_heap (yt _ _ _ _ hbx5 (by decide))];rfl
      have x4:=y4.cell
      have x5:=y4.frozen
      have z5:W2.heap[w.heap.size+5]? = some (.cells #[.int .i64 (life:Int)] 3 (0,0)):=zt _ _ _ _ k5 (by decide) (by omega)
      have z1:Boxed W2 (w.heap.size+1) 9 (.string ByteArray.empty):=zo _ _ (by have:=HZ.out;omega) (by omega) (Q1.out.other (B':=w.heap.size+5) (by omega) _)
      have z2:Boxed W2 (w.heap.size+2) 3 (.int .i64 0):=zo _ _ (by have:=HZ.out;omega) (by omega) (Q2.out.other (B':=w.heap.size+5) (by omega) _)
      have z3:Boxed W2 (w.heap.size+3) 3 (.int .i64 0):=zo _ _ (by have:=HZ.out;omega) (by omega) (Q3.out.other (B':=w.heap.size+5) (by omega) _)
      have hkf:KeepsFrom W0.heap.size W W2:=kw1.trans (zk.from _)
      have hkp:Kp (w.heap.size+4) (w.heap.size+6) W W2:=kw2.trans ⟨zb,fun o ho=>zo _ _ (by have:=HZ.out;omega) (by omega) ho⟩
      have hnext:∀ js,recL D n (pre ++ [x]++js) 0 []=if last=true then some (outs ++ [str],life)else recL D n js life (outs ++ [str]):=fun js=>by rw[HST.out];simp[recL,HS.out,h1,h2,h0]
      rw[h0,Go.Deep.nblk_setCell,Nat.zero_add]at hr
      have e2:=e2
      rw[h0,Nat.zero_add]at e2
      have HR:=Lib.hid hr
      have HE:=Lib.hid e2
      have Z:=Lib.hid (And.intro z1 (And.intro z2 (And.intro z3 (And.intro z4 z5))))
      have ZR:=Lib.hid zrow
      have HKF:=Lib.hid hkf
      have HKP2:=Lib.hid hkp
      have HNX:=Lib.hid hnext
      have hg4:¬ Bx=w.heap.size+1+1+1+1:=by have:=HZ.out;omega
      have hg4':¬ w.heap.size+1+1+1+1=Bx:=by omega
      clear hr yt y4 e2 z4 zrow zk zb zt zo hbx5 k5 kw1 kw2 z5 z1 z2 z3 hkf hkp hnext
      have hz:=app_op (ty:=25) HR.out
      have HZZ:=Lib.hid hz
      clear hz
      cases last with
      | false=>
       gi_wp2_with (with_reducible show wpListIn _ _ _ _ _ (⟨some 49,_,_,_,_,_⟩ :: _) _ _;refine wpListIn_value rfl (by simp) (by simp[Oper.about,resolve,Target.leads,Sem.run_pure]) (HZZ.out 45 48 _ _ rfl rfl (by simp[go_sem]) (by simp[go_sem])) ?_)
       rw[← HE.out]
       refine⟨HKF.out,HKP2.out,⟨outs ++ [str],life,_,by simp[HI.out.len],fun js=>by rw[HNX.out];simp,fun s hs=>?_,Z.out.2.2.2.1,by have:=ZR.out;rw[List.length_append];exact this,Z.out.2.2.2.2⟩,HKP.out.trans HKP2.out⟩
       rcases List.mem_append.1 hs with hs | hs
       ·exact HI.out.small s hs
       ·rw[List.mem_singleton.1 hs];exact sec_len HS.out
      | true=>
       have far:∀ W',Mod (fun k=>k=w.heap.size+1∨k=w.heap.size+2∨k=w.heap.size+3) W2 W'→Boxed W' (w.heap.size+4) 25 (.slice (some ⟨gb,0,none⟩) (outs.length+1) cap)∧Boxed W' (w.heap.size+5) 3 (.int .i64 (life:Int))∧
         W'.ownsRow W0.heap.size 9 1 (.slice (some ⟨gb,0,none⟩) (outs.length+1) cap) (outs.length+1) (strs (outs ++ [str])):=fun W' h=>by
        obtain⟨z1,z2,z3,z4,z5⟩:=Z.out
        refine⟨(h.block _ z4.lt (by omega)).trans z4,(h.block _ (Boxed.lt z5) (by omega)).trans z5,ownsRow_mod ZR.out h fun k hk e=>?_⟩
        have hg:=own_ge ZR.out hk
        have hz:=HZ.out
        omega
       have FAR:=Lib.hid far
       have SM:=Lib.hid (show ∀ s∈outs ++ [str],s.length≤51 from fun s hs=>by
        rcases List.mem_append.1 hs with hs | hs
        ·exact HI.out.small s hs
        ·rw[List.mem_singleton.1 hs];exact sec_len HS.out)
       have hlen:(outs ++ [str]).length=outs.length+1:=by simp
       have HLEN:=Lib.hid hlen
       have jn:∀ W',Mod (fun k=>k=w.heap.size+1∨k=w.heap.size+2∨k=w.heap.size+3) W2 W'→∀ K:Ending→World→Prop,(∀ w',NewMem W' w'→K (.returned (.string ⟨(outs ++ [str]).flatten.toArray⟩)) w')→Calls Tryz.prog 160 #[(.slice (some ⟨gb,0,none⟩) (outs.length+1) cap),.string (⟨#[]⟩:ByteArray)] W' K:=fun W' h K hK=>(join_at (FAR.out W' h).2.2 HLEN.out SM.out (by have:=HLEN.out;have:=HN.out;omega)).mono (by rintro e w' ⟨rfl,hn⟩;exact hK w' hn)
       have JN:=Lib.hid jn
       clear jn
       clear far hlen
       gi_wp2_with (with_reducible show wpListIn _ _ _ _ _ (⟨some 49,_,_,_,_,_⟩ :: _) _ _;refine wpListIn_value rfl (by simp) (by simp[Oper.about,resolve,Target.leads,Sem.run_pure]) (HZZ.out 45 48 _ _ rfl rfl (by simp[go_sem]) (by simp[go_sem])) ?_)
       rw[← HE.out]
       refine' wp_region_factsN (S:=(ThreeS W2 w.heap.size (.string ⟨(outs ++ [str]).flatten.toArray⟩) (.int .i64 (life:Int)) (.int .i64 ((outs.length+1:Nat):Int)))) (fun _ _ _=>True) [eqM (.slice (some ⟨gb,0,none⟩) (outs.length+1) cap),eqM (.string ⟨(outs ++ [str]).flatten.toArray⟩),eqM (.int .i64 (life:Int)),eqM (.slice (some ⟨gb,0,none⟩) (outs.length+1) cap),eqM (.int .i64 ((outs.length+1:Nat):Int)),eqM undef,eqM undef,eqM undef] (by kernel_rfl) (by kernel_rfl) ?hst ?h0 (Ord.stepsM_cons ?s0 (Ord.stepsM_cons ?s1 (Ord.stepsM_cons ?s2 (Ord.stepsM_cons ?s3 (Ord.stepsM_cons ?s4 (Ord.stepsM_cons ?s5 (Ord.stepsM_cons ?s6 (Ord.stepsM_cons ?s7 (Ord.stepsM_nil))))))))) ?fin
       case s0=>
        intro g W L hL hSW hd
        try simp only[Nat.zero_add,Nat.reduceAdd]at hd ⊢
        with_reducible refine OpGives.pre_reads [] 57 ?_ ?_ ?_
        ·rfl
        ·kernel_rfl
        simp only[List.map_cons,List.map_nil]
        have c:=(FAR.out W hSW.mod).1.cell;refine OpGives.val (w':=W) ?_ ⟨trivial,rfl,hSW.new (NewMem.refl _) _ (by decide)⟩;go_simp
       case s1=>
        intro g W L hL hSW hd
        try simp only[Nat.zero_add,Nat.reduceAdd]at hd ⊢
        have h0:g 0=_:=hd 0 (by decide) (by kernel_rfl)
        with_reducible refine OpGives.pre_reads [(52,0)] 57 ?_ ?_ ?_
        ·rfl
        ·kernel_rfl
        simp only[List.map_cons,List.map_nil]
        refine OpGives.call (f:=160) (args:=#[.slice (some ⟨gb,0,none⟩) (outs.length+1) cap,.string (⟨#[]⟩:ByteArray)]) (w':=W) ?_ (JN.out W hSW.mod _ (fun w' hn=>⟨_,rfl,trivial,rfl,hSW.new hn 1 (by decide)⟩));go_simp
       case s2=>
        intro g W L hL hSW hd
        try simp only[Nat.zero_add,Nat.reduceAdd]at hd ⊢
        with_reducible refine OpGives.pre_reads [] 57 ?_ ?_ ?_
        ·rfl
        ·kernel_rfl
        simp only[List.map_cons,List.map_nil]
        have c:=(FAR.out W hSW.mod).2.1.cell;refine OpGives.val (w':=W) ?_ ⟨trivial,rfl,hSW.new (NewMem.refl _) _ (by decide)⟩;go_simp
       case s3=>
        intro g W L hL hSW hd
        try simp only[Nat.zero_add,Nat.reduceAdd]at hd ⊢
        with_reducible refine OpGives.pre_reads [] 57 ?_ ?_ ?_
        ·rfl
        ·kernel_rfl
        simp only[List.map_cons,List.map_nil]
        have c:=(FAR.out W hSW.mod).1.cell;refine OpGives.val (w':=W) ?_ ⟨trivial,rfl,hSW.new (NewMem.refl _) _ (by decide)⟩;go_simp
       case s4=>
        intro g W L hL hSW hd
        try simp only[Nat.zero_add,Nat.reduceAdd]at hd ⊢
        have h3:g 3=_:=hd 3 (by decide) (by kernel_rfl)
        with_reducible refine OpGives.pre_reads [(55,3)] 57 ?_ ?_ ?_
        ·rfl
        ·kernel_rfl
        simp only[List.map_cons,List.map_nil]
        refine OpGives.val (w':=W) ?_ ⟨trivial,rfl,hSW.new (NewMem.refl _) _ (by decide)⟩;go_simp
       case s5=>
        intro g W L hL hSW hd
        try simp only[Nat.zero_add,Nat.reduceAdd]at hd ⊢
        have h1:g 1=_:=hd 1 (by decide) (by kernel_rfl)
        with_reducible refine OpGives.pre_reads [(53,1)] 57 ?_ ?_ ?_
        ·rfl
        ·kernel_rfl
        simp only[List.map_cons,List.map_nil]
        obtain⟨u,hu,_⟩:=hSW.one;have c:=hu.cell;have cf:=hu.frozen;refine OpGives.skip (w':=_) ?_ ⟨trivial,rfl,hSW.set1⟩;go_simp
       case s6=>
        intro g W L hL hSW hd
        try simp only[Nat.zero_add,Nat.reduceAdd]at hd ⊢
        have h2:g 2=_:=hd 2 (by decide) (by kernel_rfl)
        with_reducible refine OpGives.pre_reads [(54,2)] 57 ?_ ?_ ?_
        ·rfl
        ·kernel_rfl
        simp only[List.map_cons,List.map_nil]
        obtain⟨u,hu,_⟩:=hSW.two;have c:=hu.cell;have cf:=hu.frozen;refine OpGives.skip (w':=_) ?_ ⟨trivial,rfl,hSW.set2⟩;go_simp
       case s7=>
        intro g W L hL hSW hd
        try simp only[Nat.zero_add,Nat.reduceAdd]at hd ⊢
        have h4:g 4=_:=hd 4 (by decide) (by kernel_rfl)
        with_reducible refine OpGives.pre_reads [(56,4)] 57 ?_ ?_ ?_
        ·rfl
        ·kernel_rfl
        simp only[List.map_cons,List.map_nil]
        obtain⟨u,hu,_⟩:=hSW.three;have c:=hu.cell;have cf:=hu.frozen;refine OpGives.skip (w':=_) ?_ ⟨trivial,rfl,hSW.set3⟩;go_simp
       case hst=>exact fun i j v w w' _ h _=>st_of (R:=fun _ _=>True) (by repeat' first | exact trivial | with_reducible refine StL.eq ?_ | with_reducible refine StL.any ?_) i v w w' h trivial
       case h0=>exact⟨(Mod.refl _ _).drew,⟨_,Z.out.1,fun h=>by cases h⟩,⟨_,Z.out.2.1,fun h=>by cases h⟩,⟨_,Z.out.2.2.1,fun h=>by cases h⟩⟩
       case fin=>
        intro v W' L hL hSW hf
        clear hf
        refine wpAny_done (by kernel_rfl) ?_ _
        have hx:=three_exit hSW (hL 5 (Nat.lt_of_lt_of_eq (by decide:5 < 8) rfl)) (hL 6 (Nat.lt_of_lt_of_eq (by decide:6 < 8) rfl)) (hL 7 (Nat.lt_of_lt_of_eq (by decide:7 < 8) rfl)) Z.out.1 Z.out.2.1 Z.out.2.2.1 (r:=some (outs ++ [str],life)) (fun js=>by rw[HNX.out];simp) HKF.out (Below.trans HBB.out (HKP2.out.1.mono (by omega))) rfl rfl (by simp[recV])
        have HXX:=Lib.hid hx
        clear hx hSW hL
        generalize Ord.pre _ _ v _=F
        refine⟨rfl,?_⟩
        gi_wp2
        exact⟨HXX.out.1,⟨rfl,HXX.out.2.1.2⟩,HXX.out.2.2⟩
     ·gi_wp2
      refine rec_exit (r:=none) (W:=(W.setCell ⟨w.heap.size+5,0,none⟩ (.int .i64 (life:Int)))) (Q1.out.other (B':=w.heap.size+5) (by omega) _) (Q2.out.other (B':=w.heap.size+5) (by omega) _) (Q3.out.other (B':=w.heap.size+5) (by omega) _) (fun js=>?_) ((KeepsOthers.setCell _ _ _).from _) (HBB.out.setCell (p:=⟨w.heap.size+5,0,none⟩) (by simp) _) _ _ _ rfl rfl rfl
      have h2':¬ part=0:=by omega
      rw[HST.out];simp[recL,HS.out,h1,h2',h0]
    ·gi_wp2
     refine rec_exit (r:=none) (W:=(W.setCell ⟨w.heap.size+5,0,none⟩ (.int .i64 (life:Int)))) (Q1.out.other (B':=w.heap.size+5) (by omega) _) (Q2.out.other (B':=w.heap.size+5) (by omega) _) (Q3.out.other (B':=w.heap.size+5) (by omega) _) (fun js=>?_) ((KeepsOthers.setCell _ _ _).from _) (HBB.out.setCell (p:=⟨w.heap.size+5,0,none⟩) (by simp) _) _ _ _ rfl rfl rfl
     rw[HST.out];simp[recL,HS.out,h1,h0]
   ·skip
    by_cases h1:record=n
    ·by_cases h2:part=outs.length
     ·by_cases h3:life=lf
      ·skip
       obtain⟨gb,cap,W1,W2,hr,yt,y4,e2,z4,zrow,zk,zb,zt,zo⟩:=rec_push (W:=W) (B:=w.heap.size) (B0:=W0.heap.size) str HI.out.box HI.out.row (by have:=HZ.out;omega) HKP.out.1.size (by have:=HN.out;omega)
       have hbx5:=HCELL.out
       have k5:W.heap[w.heap.size+5]? = some (.cells #[.int .i64 (life:Int)] 3 (0,0)):=by rw[h3];exact HI.out.life
       have kw1:KeepsFrom W0.heap.size W W:=KeepsFrom.refl _ _
       have kw2:Kp (w.heap.size+4) (w.heap.size+6) W W:=Kp.refl _ _ _
       have x3:W1.cell? ⟨Bx,3,none⟩=some (.bool last):=by rw[Lib.cell_of_heap (yt _ _ _ _ hbx5 (by decide))];rfl
       have x4:=y4.cell
       have x5:=y4.frozen
       have z5:W2.heap[w.heap.size+5]? = some (.cells #[.int .i64 (life:Int)] 3 (0,0)):=zt _ _ _ _ k5 (by decide) (by omega)
       have z1:Boxed W2 (w.heap.size+1) 9 (.string ByteArray.empty):=zo _ _ (by have:=HZ.out;omega) (by omega) Q1.out
       have z2:Boxed W2 (w.heap.size+2) 3 (.int .i64 0):=zo _ _ (by have:=HZ.out;omega) (by omega) Q2.out
       have z3:Boxed W2 (w.heap.size+3) 3 (.int .i64 0):=zo _ _ (by have:=HZ.out;omega) (by omega) Q3.out
       have hkf:KeepsFrom W0.heap.size W W2:=kw1.trans (zk.from _)
       have hkp:Kp (w.heap.size+4) (w.heap.size+6) W W2:=kw2.trans ⟨zb,fun o ho=>zo _ _ (by have:=HZ.out;omega) (by omega) ho⟩
       have hnext:∀ js,recL D n (pre ++ [x]++js) 0 []=if last=true then some (outs ++ [str],life)else recL D n js life (outs ++ [str]):=fun js=>by rw[HST.out];simp[recL,HS.out,h1,h2,h0,h3]
       have HR:=Lib.hid hr
       have HE:=Lib.hid e2
       have Z:=Lib.hid (And.intro z1 (And.intro z2 (And.intro z3 (And.intro z4 z5))))
       have ZR:=Lib.hid zrow
       have HKF:=Lib.hid hkf
       have HKP2:=Lib.hid hkp
       have HNX:=Lib.hid hnext
       have hg4:¬ Bx=w.heap.size+1+1+1+1:=by have:=HZ.out;omega
       have hg4':¬ w.heap.size+1+1+1+1=Bx:=by omega
       clear hr yt y4 e2 z4 zrow zk zb zt zo hbx5 k5 kw1 kw2 z5 z1 z2 z3 hkf hkp hnext
       have hz:=app_op (ty:=25) HR.out
       have HZZ:=Lib.hid hz
       clear hz
       cases last with
       | false=>
        gi_wp2_with (with_reducible show wpListIn _ _ _ _ _ (⟨some 49,_,_,_,_,_⟩ :: _) _ _;refine wpListIn_value rfl (by simp) (by simp[Oper.about,resolve,Target.leads,Sem.run_pure]) (HZZ.out 45 48 _ _ rfl rfl (by simp[go_sem]) (by simp[go_sem])) ?_)
        rw[← HE.out]
        refine⟨HKF.out,HKP2.out,⟨outs ++ [str],life,_,by simp[HI.out.len],fun js=>by rw[HNX.out];simp,fun s hs=>?_,Z.out.2.2.2.1,by have:=ZR.out;rw[List.length_append];exact this,Z.out.2.2.2.2⟩,HKP.out.trans HKP2.out⟩
        rcases List.mem_append.1 hs with hs | hs
        ·exact HI.out.small s hs
        ·rw[List.mem_singleton.1 hs];exact sec_len HS.out
       | true=>
        have far:∀ W',Mod (fun k=>k=w.heap.size+1∨k=w.heap.size+2∨k=w.heap.size+3) W2 W'→Boxed W' (w.heap.size+4) 25 (.slice (some ⟨gb,0,none⟩) (outs.length+1) cap)∧Boxed W' (w.heap.size+5) 3 (.int .i64 (life:Int))∧
          W'.ownsRow W0.heap.size 9 1 (.slice (some ⟨gb,0,none⟩) (outs.length+1) cap) (outs.length+1) (strs (outs ++ [str])):=fun W' h=>by
         obtain⟨z1,z2,z3,z4,z5⟩:=Z.out
         refine⟨(h.block _ z4.lt (by omega)).trans z4,(h.block _ (Boxed.lt z5) (by omega)).trans z5,ownsRow_mod ZR.out h fun k hk e=>?_⟩
         have hg:=own_ge ZR.out hk
         have hz:=HZ.out
         omega
        have FAR:=Lib.hid far
        have SM:=Lib.hid (show ∀ s∈outs ++ [str],s.length≤51 from fun s hs=>by
         rcases List.mem_append.1 hs with hs | hs
         ·exact HI.out.small s hs
         ·rw[List.mem_singleton.1 hs];exact sec_len HS.out)
        have hlen:(outs ++ [str]).length=outs.length+1:=by simp
        have HLEN:=Lib.hid hlen
        have jn:∀ W',Mod (fun k=>k=w.heap.size+1∨k=w.heap.size+2∨k=w.heap.size+3) W2 W'→∀ K:Ending→World→Prop,(∀ w',NewMem W' w'→K (.returned (.string ⟨(outs ++ [str]).flatten.toArray⟩)) w')→Calls Tryz.prog 160 #[(.slice (some ⟨gb,0,none⟩) (outs.length+1) cap),.string (⟨#[]⟩:ByteArray)] W' K:=fun W' h K hK=>(join_at (FAR.out W' h).2.2 HLEN.out SM.out (by have:=HLEN.out;have:=HN.out;omega)).mono (by rintro e w' ⟨rfl,hn⟩;exact hK w' hn)
        have JN:=Lib.hid jn
        clear jn
        clear far hlen
        gi_wp2_with (with_reducible show wpListIn _ _ _ _ _ (⟨some 49,_,_,_,_,_⟩ :: _) _ _;refine wpListIn_value rfl (by simp) (by simp[Oper.about,resolve,Target.leads,Sem.run_pure]) (HZZ.out 45 48 _ _ rfl rfl (by simp[go_sem]) (by simp[go_sem])) ?_)
        rw[← HE.out]
        refine' wp_region_factsN (S:=(ThreeS W2 w.heap.size (.string ⟨(outs ++ [str]).flatten.toArray⟩) (.int .i64 (life:Int)) (.int .i64 ((outs.length+1:Nat):Int)))) (fun _ _ _=>True) [eqM (.slice (some ⟨gb,0,none⟩) (outs.length+1) cap),eqM (.string ⟨(outs ++ [str]).flatten.toArray⟩),eqM (.int .i64 (life:Int)),eqM (.slice (some ⟨gb,0,none⟩) (outs.length+1) cap),eqM (.int .i64 ((outs.length+1:Nat):Int)),eqM undef,eqM undef,eqM undef] (by kernel_rfl) (by kernel_rfl) ?hst ?h0 (Ord.stepsM_cons ?s0 (Ord.stepsM_cons ?s1 (Ord.stepsM_cons ?s2 (Ord.stepsM_cons ?s3 (Ord.stepsM_cons ?s4 (Ord.stepsM_cons ?s5 (Ord.stepsM_cons ?s6 (Ord.stepsM_cons ?s7 (Ord.stepsM_nil))))))))) ?fin
        case s0=>
         intro g W L hL hSW hd
         try simp only[Nat.zero_add,Nat.reduceAdd]at hd ⊢
         with_reducible refine OpGives.pre_reads [] 57 ?_ ?_ ?_
         ·rfl
         ·kernel_rfl
         simp only[List.map_cons,List.map_nil]
         have c:=(FAR.out W hSW.mod).1.cell;refine OpGives.val (w':=W) ?_ ⟨trivial,rfl,hSW.new (NewMem.refl _) _ (by decide)⟩;go_simp
        case s1=>
         intro g W L hL hSW hd
         try simp only[Nat.zero_add,Nat.reduceAdd]at hd ⊢
         have h0:g 0=_:=hd 0 (by decide) (by kernel_rfl)
         with_reducible refine OpGives.pre_reads [(52,0)] 57 ?_ ?_ ?_
         ·rfl
         ·kernel_rfl
         simp only[List.map_cons,List.map_nil]
         refine OpGives.call (f:=160) (args:=#[.slice (some ⟨gb,0,none⟩) (outs.length+1) cap,.string (⟨#[]⟩:ByteArray)]) (w':=W) ?_ (JN.out W hSW.mod _ (fun w' hn=>⟨_,rfl,trivial,rfl,hSW.new hn 1 (by decide)⟩));go_simp
        case s2=>
         intro g W L hL hSW hd
         try simp only[Nat.zero_add,Nat.reduceAdd]at hd ⊢
         with_reducible refine OpGives.pre_reads [] 57 ?_ ?_ ?_
         ·rfl
         ·kernel_rfl
         simp only[List.map_cons,List.map_nil]
         have c:=(FAR.out W hSW.mod).2.1.cell;refine OpGives.val (w':=W) ?_ ⟨trivial,rfl,hSW.new (NewMem.refl _) _ (by decide)⟩;go_simp
        case s3=>
         intro g W L hL hSW hd
         try simp only[Nat.zero_add,Nat.reduceAdd]at hd ⊢
         with_reducible refine OpGives.pre_reads [] 57 ?_ ?_ ?_
         ·rfl
         ·kernel_rfl
         simp only[List.map_cons,List.map_nil]
         have c:=(FAR.out W hSW.mod).1.cell;refine OpGives.val (w':=W) ?_ ⟨trivial,rfl,hSW.new (NewMem.refl _) _ (by decide)⟩;go_simp
        case s4=>
         intro g W L hL hSW hd
         try simp only[Nat.zero_add,Nat.reduceAdd]at hd ⊢
         have h3:g 3=_:=hd 3 (by decide) (by kernel_rfl)
         with_reducible refine OpGives.pre_reads [(55,3)] 57 ?_ ?_ ?_
         ·rfl
         ·kernel_rfl
         simp only[List.map_cons,List.map_nil]
         refine OpGives.val (w':=W) ?_ ⟨trivial,rfl,hSW.new (NewMem.refl _) _ (by decide)⟩;go_simp
        case s5=>
         intro g W L hL hSW hd
         try simp only[Nat.zero_add,Nat.reduceAdd]at hd ⊢
         have h1:g 1=_:=hd 1 (by decide) (by kernel_rfl)
         with_reducible refine OpGives.pre_reads [(53,1)] 57 ?_ ?_ ?_
         ·rfl
         ·kernel_rfl
         simp only[List.map_cons,List.map_nil]
         obtain⟨u,hu,_⟩:=hSW.one;have c:=hu.cell;have cf:=hu.frozen;refine OpGives.skip (w':=_) ?_ ⟨trivial,rfl,hSW.set1⟩;go_simp
        case s6=>
         intro g W L hL hSW hd
         try simp only[Nat.zero_add,Nat.reduceAdd]at hd ⊢
         have h2:g 2=_:=hd 2 (by decide) (by kernel_rfl)
         with_reducible refine OpGives.pre_reads [(54,2)] 57 ?_ ?_ ?_
         ·rfl
         ·kernel_rfl
         simp only[List.map_cons,List.map_nil]
         obtain⟨u,hu,_⟩:=hSW.two;have c:=hu.cell;have cf:=hu.frozen;refine OpGives.skip (w':=_) ?_ ⟨trivial,rfl,hSW.set2⟩;go_simp
        case s7=>
         intro g W L hL hSW hd
         try simp only[Nat.zero_add,Nat.reduceAdd]at hd ⊢
         have h4:g 4=_:=hd 4 (by decide) (by kernel_rfl)
         with_reducible refine OpGives.pre_reads [(56,4)] 57 ?_ ?_ ?_
         ·rfl
         ·kernel_rfl
         simp only[List.map_cons,List.map_nil]
         obtain⟨u,hu,_⟩:=hSW.three;have c:=hu.cell;have cf:=hu.frozen;refine OpGives.skip (w':=_) ?_ ⟨trivial,rfl,hSW.set3⟩;go_simp
        case hst=>exact fun i j v w w' _ h _=>st_of (R:=fun _ _=>True) (by repeat' first | exact trivial | with_reducible refine StL.eq ?_ | with_reducible refine StL.any ?_) i v w w' h trivial
        case h0=>exact⟨(Mod.refl _ _).drew,⟨_,Z.out.1,fun h=>by cases h⟩,⟨_,Z.out.2.1,fun h=>by cases h⟩,⟨_,Z.out.2.2.1,fun h=>by cases h⟩⟩
        case fin=>
         intro v W' L hL hSW hf
         clear hf
         refine wpAny_done (by kernel_rfl) ?_ _
         have hx:=three_exit hSW (hL 5 (Nat.lt_of_lt_of_eq (by decide:5 < 8) rfl)) (hL 6 (Nat.lt_of_lt_of_eq (by decide:6 < 8) rfl)) (hL 7 (Nat.lt_of_lt_of_eq (by decide:7 < 8) rfl)) Z.out.1 Z.out.2.1 Z.out.2.2.1 (r:=some (outs ++ [str],life)) (fun js=>by rw[HNX.out];simp) HKF.out (Below.trans HBB.out (HKP2.out.1.mono (by omega))) rfl rfl (by simp[recV])
         have HXX:=Lib.hid hx
         clear hx hSW hL
         generalize Ord.pre _ _ v _=F
         refine⟨rfl,?_⟩
         gi_wp2
         exact⟨HXX.out.1,⟨rfl,HXX.out.2.1.2⟩,HXX.out.2.2⟩
      ·gi_wp2
       refine rec_exit (r:=none) (W:=W) Q1.out Q2.out Q3.out (fun js=>?_) (KeepsFrom.refl _ _) HBB.out _ _ _ rfl rfl rfl
       rw[HST.out];simp[recL,HS.out,h1,h2,h3,h0]
     ·gi_wp2
      refine rec_exit (r:=none) (W:=W) Q1.out Q2.out Q3.out (fun js=>?_) (KeepsFrom.refl _ _) HBB.out _ _ _ rfl rfl rfl
      rw[HST.out];simp[recL,HS.out,h1,h2,h0]
    ·gi_wp2
     refine rec_exit (r:=none) (W:=W) Q1.out Q2.out Q3.out (fun js=>?_) (KeepsFrom.refl _ _) HBB.out _ _ _ rfl rfl rfl
     rw[HST.out];simp[recL,HS.out,h1,h0]
 case done=>
  rintro D' ys W hD rfl ⟨⟨outs,lf,v,hI⟩,hkp⟩ hK
  have hz:=HZ.out
  have hrec:recL D n (List.range' at_ (D.sure.length - at_)) 0 []=none:=by have:=hI.rec_ [];rw[List.append_nil]at this;rw[this];rfl
  have HREC:=Lib.hid hrec
  have q1:Boxed W (w.heap.size+1) 9 (.string ByteArray.empty):=(hkp.1.block _ (by omega)).trans B1.out
  have q2:Boxed W (w.heap.size+1+1) 3 (.int .i64 0):=(hkp.1.block _ (by omega)).trans B2.out
  have q3:Boxed W (w.heap.size+1+1+1) 3 (.int .i64 0):=(hkp.1.block _ (by omega)).trans B3.out
  have c1:=q1.cell
  have c2:=q2.cell
  have c3:=q3.cell
  have f1:=q1.frozen
  have f2:=q2.frozen
  have f3:=q3.frozen
  have hB:Below w.heap.size w W:=Below.trans HW.out (hkp.1.mono (by omega))
  have Q1:=Lib.hid q1
  have Q2:=Lib.hid q2
  have Q3:=Lib.hid q3
  have HBB:=Lib.hid hB
  have HKD:=Lib.hid hK
  clear q1 q2 q3 hB hK hI hkp hrec
  gi_wp2
  have y1:Boxed (((W.setCell ⟨w.heap.size+1,0,none⟩ (.string (⟨#[]⟩:ByteArray))).setCell ⟨w.heap.size+1+1,0,none⟩ (.int .i64 0)).setCell ⟨w.heap.size+1+1+1,0,none⟩ (.int .i64 0)) (w.heap.size+1) 9 (.string (⟨#[]⟩:ByteArray)):=((Q1.out.set _).other (by omega) _).other (by omega) _
  have y2:Boxed (((W.setCell ⟨w.heap.size+1,0,none⟩ (.string (⟨#[]⟩:ByteArray))).setCell ⟨w.heap.size+1+1,0,none⟩ (.int .i64 0)).setCell ⟨w.heap.size+1+1+1,0,none⟩ (.int .i64 0)) (w.heap.size+1+1) 3 (.int .i64 0):=((Q2.out.other (by omega) _).set _).other (by omega) _
  have y3:Boxed (((W.setCell ⟨w.heap.size+1,0,none⟩ (.string (⟨#[]⟩:ByteArray))).setCell ⟨w.heap.size+1+1,0,none⟩ (.int .i64 0)).setCell ⟨w.heap.size+1+1+1,0,none⟩ (.int .i64 0)) (w.heap.size+1+1+1) 3 (.int .i64 0):=((Q3.out.other (by omega) _).other (by omega) _).set _
  have y4:(((W.setCell ⟨w.heap.size+1,0,none⟩ (.string (⟨#[]⟩:ByteArray))).setCell ⟨w.heap.size+1+1,0,none⟩ (.int .i64 0)).setCell ⟨w.heap.size+1+1+1,0,none⟩ (.int .i64 0)).heap[D']? = some (.deferred (some [])):=(((KeepsOthers.setCell _ _ _).trans (KeepsOthers.setCell _ _ _)).trans (KeepsOthers.setCell _ _ _)).same D' _ HKD.out rfl
  have y5:Below w.heap.size w (((W.setCell ⟨w.heap.size+1,0,none⟩ (.string (⟨#[]⟩:ByteArray))).setCell ⟨w.heap.size+1+1,0,none⟩ (.int .i64 0)).setCell ⟨w.heap.size+1+1+1,0,none⟩ (.int .i64 0)):=((HBB.out.setCell (p:=⟨w.heap.size+1,0,none⟩) (by simp) _).setCell (p:=⟨w.heap.size+1+1,0,none⟩) (by simp;omega) _).setCell (p:=⟨w.heap.size+1+1+1,0,none⟩) (by simp;omega) _
  clear c1 c2 c3 f1 f2 f3 Q1 Q2 Q3 HBB HKD
  generalize (((W.setCell ⟨w.heap.size+1,0,none⟩ (.string (⟨#[]⟩:ByteArray))).setCell ⟨w.heap.size+1+1,0,none⟩ (.int .i64 0)).setCell ⟨w.heap.size+1+1+1,0,none⟩ (.int .i64 0))=W3 at *
  refine⟨by simp,.inl ⟨_,_,rfl,run_takeDeferred y4,?_⟩⟩
  have hg:=grownBy_putObj' W3 D' (.deferred none)
  have x1:Boxed (W3.putObj D' (.deferred none)) (w.heap.size+1) 9 (.string (⟨#[]⟩:ByteArray)):=Boxed.kept (row:=some D') y1 hg (by simp;omega)
  have x2:Boxed (W3.putObj D' (.deferred none)) (w.heap.size+1+1) 3 (.int .i64 0):=Boxed.kept (row:=some D') y2 hg (by simp;omega)
  have x3:Boxed (W3.putObj D' (.deferred none)) (w.heap.size+1+1+1) 3 (.int .i64 0):=Boxed.kept (row:=some D') y3 hg (by simp;omega)
  have c1:=x1.cell
  have c2:=x2.cell
  have c3:=x3.cell
  refine⟨.tuple #[.string (⟨#[]⟩:ByteArray),.int .i64 0,.int .i64 0],?_,by rw[HREC.out];rfl,y5.trans (belowK_b (w:=w) (Nat.le_refl _) W3 D' _ _ (by omega) y4 rfl rfl)⟩
  simp[results,Tryz.f124,go_sem,c1,c2,c3]
 case stop=>
  rintro D' c pre W hD ⟨k,hk,rfl⟩ ⟨⟨rfl,r,hr,h1,h2,h3⟩,hB⟩ hK
  have hz:=HZ.out
  have hfull:recL D n (List.range' at_ (D.sure.length - at_)) 0 []=r:=by
   have:=hr (List.range' (at_+k) (D.sure.length - at_ - k))
   rw[List.range'_append_1]at this
   rw[← this];congr 2;omega
  have HFULL:=Lib.hid hfull
  have HH1:=Lib.hid h1
  have HH2:=Lib.hid h2
  have HH3:=Lib.hid h3
  have HBB:=Lib.hid hB
  have HKD:=Lib.hid hK
  clear h1 h2 h3 hB hK hr hfull hk
  gi_wp2
  refine⟨by simp,.inl ⟨_,_,rfl,run_takeDeferred HKD.out,?_⟩⟩
  have hg:=grownBy_putObj' W D' (.deferred none)
  have y1:Boxed (W.putObj D' (.deferred none)) (w.heap.size+1) 9 (.string ⟨(recV r).1.toArray⟩):=Boxed.kept (row:=some D') HH1.out hg (by simp;omega)
  have y2:Boxed (W.putObj D' (.deferred none)) (w.heap.size+1+1) 3 (.int .i64 ((recV r).2.1:Int)):=Boxed.kept (row:=some D') HH2.out hg (by simp;omega)
  have y3:Boxed (W.putObj D' (.deferred none)) (w.heap.size+1+1+1) 3 (.int .i64 ((recV r).2.2:Int)):=Boxed.kept (row:=some D') HH3.out hg (by simp;omega)
  have c1:=y1.cell
  have c2:=y2.cell
  have c3:=y3.cell
  refine⟨.tuple #[.string ⟨(recV r).1.toArray⟩,.int .i64 ((recV r).2.1:Int),.int .i64 ((recV r).2.2:Int)],?_,by rw[HFULL.out],HBB.out.trans (belowK_b (w:=w) (Nat.le_refl _) W D' _ _ (by omega) HKD.out rfl rfl)⟩
  simp[results,Tryz.f124,go_sem,c1,c2,c3]
end Go.Proofs.YtlmabbigfdbmbaaGreatDoor.Tape
namespace Go.Proofs.YtlmabbigfdbmbaaGreatDoor.Tape
open Go.RowKit Go.Proofs.YtlmabbigfdbmbaaGreatDoor.Ord Go.Proofs.YtlmabbigfdbmbaaGreatDoorW.PrintWords Go.Proofs.YtlmabbigfdbmbaaGreatDoor.Base Go.Proofs.YtlmabbigfdbmbaaGreatDoor.Drum
open Go.Shelf
attribute [local irreducible] OpGives
theorem ready_nil(w:World):Calls Tryz.prog 123 #[.pointer none] w fun e w'=>e = .returned (.int .i64 1)∧w'=w:=by
 have hs:=size_nil w
 go_enter Tryz.func123,Tryz.ntmps123
 go_wp2_with fail
 refine hs.mono ?_
 rintro e w' ⟨rfl,rfl⟩
 go_wp2
 go_ret
 exact⟨rfl,rfl⟩
theorem ready_at(b sb cap:Nat)(lv:Value)(D:DS)(w:World)(h:DrumAt w b sb cap lv D) :
  Calls Tryz.prog 123 #[.pointer (some ⟨b,0,none⟩)] w fun e w'=>e = .returned (.int .i64 (if D.down then 9 else 0))∧w'=w:=by
 have hs:=size_of b _ D.sure.length cap w h.cell.cells.1 h.pos
 have hd:=down_of b _ D.sure.length cap D.down w h.cell.cells.1 h.cell.cells.2.2.2.2 h.pos
 have hp:=h.pos
 have HD:=Lib.hid hd
 clear hd h
 go_enter Tryz.func123,Tryz.ntmps123
 go_wp2_with fail
 refine hs.mono ?_
 rintro e w' ⟨rfl,rfl⟩
 cases hdn:D.down with
 | true=>
  rw[hdn]at HD
  go_wp2_with fail
  refine HD.out.mono ?_
  rintro e w' ⟨rfl,rfl⟩
  go_wp2
  go_ret
  exact⟨rfl,rfl⟩
 | false=>
  rw[hdn]at HD
  go_wp2_with fail
  refine HD.out.mono ?_
  rintro e w' ⟨rfl,rfl⟩
  go_wp2
  all_goals (go_ret;exact⟨rfl,rfl⟩)
end Go.Proofs.YtlmabbigfdbmbaaGreatDoor.Tape
namespace Go.Proofs.YtlmabbigfdbmbaaGreatDoor.Tape
open Go.RowKit Go.Proofs.YtlmabbigfdbmbaaGreatDoor.Ord Go.Proofs.YtlmabbigfdbmbaaGreatDoorW.PrintWords Go.Proofs.YtlmabbigfdbmbaaGreatDoor.Base Go.Proofs.YtlmabbigfdbmbaaGreatDoor.Drum
def DS.rec(D:DS)(at_ n:Nat):Option (List (List UInt8) × Nat):=recL D n (List.range' at_ (D.sure.length - at_)) 0 []
theorem recL_len{D:DS}{n:Nat} : ∀ (js:List Nat) (life:Nat) (out o:List (List UInt8)) (l:Nat),recL D n js life out=some (o,l)→o.length≤out.length+js.length∧out.length < o.length
 | [],_,_,_,_,h=>by cases h
 | j :: js,life,out,o,l,h=>by
  unfold recL at h
  cases hs:DS.sec D j with
  | none=>rw[hs]at h;cases h
  | some x=>
   rw[hs]at h
   simp only[]at h
   by_cases hc:x.record=n∧x.part=out.length∧x.life=(if out.length=0 then x.life else life)
   ·rw[if_pos hc]at h
    by_cases hl:x.last=true
    ·rw[if_pos hl]at h
     injection h with h
     injection h with h1 h2
     subst h1
     simp only[List.length_append,List.length_cons,List.length_nil]
     omega
    ·rw[if_neg hl]at h
     have:=recL_len js x.life (out ++ [x.s]) o l h
     simp only[List.length_append,List.length_cons,List.length_nil]at this ⊢
     omega
   ·rw[if_neg hc]at h;cases h
theorem rec_len{D:DS}{at_ n l:Nat}{o:List (List UInt8)}(h:DS.rec D at_ n=some (o,l)):at_+o.length≤max at_ D.sure.length∧0 < o.length:=by
 have:=recL_len _ _ _ _ _ h
 rw[List.length_range',List.length_nil]at this
 omega
def DS.scanN(D:DS):Nat→Nat→Nat→List (List UInt8)→List (List UInt8) × Nat
 | 0,at_,_,out=>(out,at_)
 | k+1,at_,was,out=>match DS.rec D at_ (out.length+1)with
  | none=>(out,at_)
  | some (o,life)=>if life < was then (out,at_)else DS.scanN D k (at_+o.length) life (out ++ [o.flatten])
def DS.scan(D:DS):List (List UInt8) × Nat:=DS.scanN D D.sure.length 0 1 []
end Go.Proofs.YtlmabbigfdbmbaaGreatDoor.Tape
namespace Go.Proofs.YtlmabbigfdbmbaaGreatDoor.Tape
open Go.RowKit Go.Proofs.YtlmabbigfdbmbaaGreatDoor.Ord Go.Proofs.YtlmabbigfdbmbaaGreatDoorW.PrintWords Go.Proofs.YtlmabbigfdbmbaaGreatDoor.Base Go.Proofs.YtlmabbigfdbmbaaGreatDoor.Drum
structure TS where
 count:Nat
 life:Nat
 at_:Nat
 err:Int
def needN(n:Nat):Nat:=max 1 ((max n 1 - 1) / 51+1)
theorem needN_pos(n:Nat):0 < needN n:=by unfold needN;omega
theorem needN_le(n:Nat):needN n≤n / 51+1:=by unfold needN;omega
theorem needN_lt(n p:Nat)(h:p+1 < needN n):51 * (p+1) < n:=by unfold needN at h;omega
def piece(s:List UInt8)(p:Nat):List UInt8:=(s.drop (51 * p)).take 51
theorem piece_len(s:List UInt8)(p:Nat):(piece s p).length≤51:=by unfold piece;rw[List.length_take];omega
theorem piece_full(s:List UInt8)(p:Nat)(h:p+1 < needN s.length):(piece s p).length=51:=by
 have:=needN_lt _ _ h
 unfold piece;rw[List.length_take,List.length_drop];omega
def secOf(life n:Nat)(s:List UInt8)(p:Nat):Sec:=⟨life,n,p,decide (p+1=needN s.length),piece s p⟩
theorem secOf_ok {life n : Nat} {s : List UInt8} {p : Nat} (hl : 0 < life ∧ life < 4294967296) (hn : n < 4294967296) (hp : p < 65536) (hp' : p < needN s.length) : (secOf life n s p).ok :=
  ⟨hl, hn, hp, piece_len _ _, fun h => piece_full _ _ (by have : ¬ p + 1 = needN s.length := by simpa [secOf] using h
                                                          omega)⟩
theorem secOf_len(life n:Nat)(s:List UInt8)(p:Nat):(secOf life n s p).s.length≤51:=piece_len _ _
def TS.puts(T:TS)(s:List UInt8):List Nat→DS→Int × DS
 | [],D=>(0,D)
 | p :: ps,D=>if (D.write ((T.at_+p:Nat):Int) (layN (secOf T.life (T.count+1) s p))).1=0 then TS.puts T s ps (D.write ((T.at_+p:Nat):Int) (layN (secOf T.life (T.count+1) s p))).2 else D.write ((T.at_+p:Nat):Int) (layN (secOf T.life (T.count+1) s p))
def TS.append(T:TS)(D:DS)(s:List UInt8):Int × TS × DS:=
 if T.err≠0 then (T.err,T,D)
 else if D.sure.length - T.at_ < needN s.length then (8,T,D)
 else if (T.puts s (List.range' 0 (needN s.length)) D).1=0 then (0,⟨T.count+1,T.life,T.at_+needN s.length,0⟩,(T.puts s (List.range' 0 (needN s.length)) D).2)
 else ((T.puts s (List.range' 0 (needN s.length)) D).1,{ T with err:=(T.puts s (List.range' 0 (needN s.length)) D).1 },(T.puts s (List.range' 0 (needN s.length)) D).2)
def TS.settle(T:TS)(D:DS):Int × TS × DS:=
 if T.err≠0 then (T.err,T,D)else (D.settle.1,{ T with err:=D.settle.1 },D.settle.2)
theorem write_len(D:DS)(i:Int)(s:List UInt8):(D.write i s).2.sure.length=D.sure.length∧(D.write i s).2.loose.length≤D.loose.length+1:=by
 unfold DS.write
 split
 ·exact⟨rfl,by simp⟩
 ·split
  ·exact⟨rfl,by simp⟩
  ·exact⟨rfl,by simp[DS.burn]⟩
theorem puts_len(T:TS)(s:List UInt8):∀ (ps:List Nat) (D:DS),(T.puts s ps D).2.sure.length=D.sure.length∧(T.puts s ps D).2.loose.length≤D.loose.length+ps.length
 | [],D=>⟨rfl,by simp[TS.puts]⟩
 | p :: ps,D=>by
  have h:=write_len D ((T.at_+p:Nat):Int) (layN (secOf T.life (T.count+1) s p))
  unfold TS.puts
  split
  ·have ih:=puts_len T s ps (D.write ((T.at_+p:Nat):Int) (layN (secOf T.life (T.count+1) s p))).2
   rw[List.length_cons]
   exact⟨ih.1.trans h.1,by omega⟩
  ·rw[List.length_cons]
   exact⟨h.1,by omega⟩
theorem append_len(T:TS)(D:DS)(s:List UInt8):(T.append D s).2.2.sure.length=D.sure.length∧(T.append D s).2.2.loose.length≤D.loose.length+needN s.length:=by
 have h:=puts_len T s (List.range' 0 (needN s.length)) D
 rw[List.length_range']at h
 unfold TS.append
 split
 ·exact⟨rfl,Nat.le_add_right _ _⟩
 ·split
  ·exact⟨rfl,Nat.le_add_right _ _⟩
  ·split
   ·exact h
   ·exact h
end Go.Proofs.YtlmabbigfdbmbaaGreatDoor.Tape
namespace Go.Proofs.YtlmabbigfdbmbaaGreatDoor.Tape
open Go.RowKit Go.Proofs.YtlmabbigfdbmbaaGreatDoor.Ord Go.Proofs.YtlmabbigfdbmbaaGreatDoorW.PrintWords Go.Proofs.YtlmabbigfdbmbaaGreatDoor.Base Go.Proofs.YtlmabbigfdbmbaaGreatDoor.Drum
attribute [local go_sem] rdl_const rdl_func rdl_global rdl_nil rdl_cons
attribute [local irreducible] OpGives
def blockT(bk:Nat)(cs:Array Value)(t:TypeId):Thing where
 P:=fun W=>W.heap[bk]? = some (.cells cs t (0,0))
 F:=fun k=>k=bk
 kept:=fun W W' G h hm hG=>(hm.block bk (Array.getElem?_eq_some_iff.1 h).1 (hG bk rfl)).trans h
 lt:=fun W h k hk=>by rw[hk];exact(Array.getElem?_eq_some_iff.1 h).1
def TS.cells(T:TS)(b:Nat):Array Value:=#[.pointer (some ⟨b,0,none⟩),.int .i64 (T.count:Int),.int .i64 (T.life:Int),.int .i64 (T.at_:Int),.int .i64 T.err]
def tapeT(tb b:Nat)(T:TS):Thing:=blockT tb (T.cells b) 167
def TAt(W:World)(tb b:Nat)(T:TS):Prop:=W.heap[tb]? = some (.cells (T.cells b) 167 (0,0))
section
variable{B:Nat}{w W:World}{l:List Thing}{tb b:Nat}{T:TS}{D:DS}{t:Thing}
theorem sep_head{x:Thing}(h:Sep B w W (x :: l)):x.P W:=(h.all x List.mem_cons_self).1
theorem TAt.of(h:Sep B w W (tapeT tb b T :: l)):TAt W tb b T:=sep_head h
theorem TAt.c0(h:TAt W tb b T):W.cell? ⟨tb,0,none⟩=some (.pointer (some ⟨b,0,none⟩)):=by rw[Lib.cell_of_heap h];rfl
theorem TAt.c1(h:TAt W tb b T):W.cell? ⟨tb,1,none⟩=some (.int .i64 (T.count:Int)):=by rw[Lib.cell_of_heap h];rfl
theorem TAt.c2(h:TAt W tb b T):W.cell? ⟨tb,2,none⟩=some (.int .i64 (T.life:Int)):=by rw[Lib.cell_of_heap h];rfl
theorem TAt.c3(h:TAt W tb b T):W.cell? ⟨tb,3,none⟩=some (.int .i64 (T.at_:Int)):=by rw[Lib.cell_of_heap h];rfl
theorem TAt.c4(h:TAt W tb b T):W.cell? ⟨tb,4,none⟩=some (.int .i64 T.err):=by rw[Lib.cell_of_heap h];rfl
theorem TAt.free(h:TAt W tb b T)(i:Nat):W.frozen? ⟨tb,i,none⟩=false:=frozen_of_row W tb i _ _ h
theorem TAt.setE(h:TAt W tb b T)(e:Int):TAt (W.setCell ⟨tb,4,none⟩ (.int .i64 e)) tb b { T with err:=e } :=by
 exact cells_set h 4 _
theorem TAt.setA(h:TAt W tb b T)(e:Nat):TAt (W.setCell ⟨tb,3,none⟩ (.int .i64 (e:Int))) tb b { T with at_:=e } :=by
 exact cells_set h 3 _
theorem TAt.setC(h:TAt W tb b T)(e:Nat):TAt (W.setCell ⟨tb,1,none⟩ (.int .i64 (e:Int))) tb b { T with count:=e } :=by
 exact cells_set h 1 _
theorem sep_setT{T':TS}{i:Nat}{v:Value}(h:Sep B w W (tapeT tb b T :: l))(h':TAt (W.setCell ⟨tb,i,none⟩ v) tb b T'):Sep B w (W.setCell ⟨tb,i,none⟩ v) (tapeT tb b T' :: l):=
 h.turn (t':=tapeT tb b T') (Mod.setCell _ _ _ rfl) h' (fun k hk=> .inl hk)
theorem tmade_tape(h:TAt W tb b T):Calls Tryz.prog 95 #[.pointer (some ⟨tb,0,none⟩)] W fun e w'=>e = .returned (.bool true)∧w'=W:=by
 have c0:=h.c0
 clear h
 go_enter Tryz.func95,Tryz.ntmps95
 go_wp2
 go_ret
 exact⟨rfl,rfl⟩
theorem tstate_tape(h:TAt W tb b T):Calls Tryz.prog 126 #[.pointer (some ⟨tb,0,none⟩)] W fun e w'=>e = .returned (.int .i64 T.err)∧w'=W:=by
 have c4:=h.c4
 have hm:=Lib.hid (tmade_tape h)
 clear h
 go_enter Tryz.func126,Tryz.ntmps126
 go_wp2_with fail
 refine hm.out.mono ?_
 rintro e w' ⟨rfl,rfl⟩
 go_wp2
 go_ret
 exact⟨rfl,rfl⟩
theorem tlen_tape(h:TAt W tb b T):Calls Tryz.prog 65 #[.pointer (some ⟨tb,0,none⟩)] W fun e w'=>e = .returned (.int .i64 (T.count:Int))∧w'=W:=by
 have c1:=h.c1
 have hm:=Lib.hid (tmade_tape h)
 clear h
 go_enter Tryz.func65,Tryz.ntmps65
 go_wp2_with fail
 refine hm.out.mono ?_
 rintro e w' ⟨rfl,rfl⟩
 go_wp2
 go_ret
 exact⟨rfl,rfl⟩
set_option maxHeartbeats 4000000 in
theorem need_any(n:Nat)(hn:n≤1000000000)(w:World):Calls Tryz.prog 127 #[.int .i64 (n:Int)] w fun e w'=>e = .returned (.int .i64 (needN n:Int))∧w'=w:=by
 obtain⟨m,hm⟩:∃ m:Nat,max (n:Int) 1=(m:Int)∧m=max n 1:=⟨max n 1,by omega,rfl⟩
 have h1:wrap64 ((m:Int) - 1)=((m - 1:Nat):Int):=w_sub (b:=1) (by omega) (by omega)
 have h2:((m - 1:Nat):Int).tdiv 51=(((m - 1) / 51:Nat):Int):=rfl
 have h3:wrap64 ((((m - 1) / 51:Nat):Int)+1)=(((m - 1) / 51+1:Nat):Int):=w_one (by omega)
 have h4:max 1 (((m - 1) / 51+1:Nat):Int)=(needN n:Int):=by unfold needN;rw[← hm.2];omega
 go_enter Tryz.func127,Tryz.ntmps127
 go_wp2
 go_ret
 refine⟨congrArg (fun z=>Ending.returned (Value.int .i64 z)) ?_,rfl⟩
 show max 1 ((((max n 1:Nat):Int) - 1) / 51+1)=(needN n:Int)
 unfold needN;omega
end
end Go.Proofs.YtlmabbigfdbmbaaGreatDoor.Tape
namespace Go.Proofs.YtlmabbigfdbmbaaGreatDoor.Tape
open Go.RowKit Go.Proofs.YtlmabbigfdbmbaaGreatDoor.Ord Go.Proofs.YtlmabbigfdbmbaaGreatDoorW.PrintWords Go.Proofs.YtlmabbigfdbmbaaGreatDoor.Base Go.Proofs.YtlmabbigfdbmbaaGreatDoor.Drum
attribute [local go_sem] rdl_const rdl_func rdl_global rdl_nil rdl_cons
attribute [local irreducible] OpGives
theorem size_at{W:World}{b sb cap:Nat}{lv:Value}{D:DS}(hd:DrumAt W b sb cap lv D) :
  Calls Tryz.prog 96 #[.pointer (some ⟨b,0,none⟩)] W fun e W'=>e = .returned (.int .i64 (D.sure.length:Int))∧W=W':=size_of b _ _ _ W hd.cell.cells.1 hd.pos
section
variable{B:Nat}{w W:World}{l:List Thing}{tb b:Nat}{T:TS}{D:DS}{t:Thing}
set_option maxHeartbeats 4000000 in
theorem troom_tape(h:Sep B w W (tapeT tb b T :: t :: l))(ht:IsDrum b D t)(ha:T.at_≤D.sure.length):Calls Tryz.prog 64 #[.pointer (some ⟨tb,0,none⟩)] W fun e w'=>e = .returned (.int .i64 ((D.sure.length - T.at_:Nat):Int))∧∃ n,w'=W.drewN n:=by
 have hT:=TAt.of h
 obtain⟨sb,cap,lv,rfl⟩:=ht
 have hd:DrumAt W b sb cap lv D:=(h.all (drumT b sb cap lv D) (by simp)).1
 have hfew:=hd.few
 have hs:=fun n=>size_at (W:=W.drewN n) (D:=D) (b:=b) (sb:=sb) (cap:=cap) (lv:=lv) (hd.kept (F:=fun _=>False) (Mod.of_below (bdN' (Below.refl _ _))) (fun _ _=>id))
 have HS:=Lib.hid (fun n=>(hs n).mono (R':=fun e w''=>e = .returned (.int .i64 (D.sure.length:Int))∧∃ m,w''=W.drewN m) (fun e w'' ⟨h1,h2⟩=>⟨h1,n,h2.symm⟩))
 have c0:=fun n=>(show TAt (W.drewN n) tb b T from hT).c0
 have c3:=fun n=>(show TAt (W.drewN n) tb b T from hT).c3
 have hm:=Lib.hid (tmade_tape hT)
 have hw:IntKind.i64.wrap ((D.sure.length:Int) - (T.at_:Int))=((D.sure.length - T.at_:Nat):Int):=by rw[IntKind.wrap_i64];omega
 clear h hd hT hs ha hfew
 go_enter Tryz.func64,Tryz.ntmps64
 go_wp2_with fail
 refine hm.out.mono ?_
 rintro e w' ⟨rfl,rfl⟩
 go_wp2_with fail
 refine wp_region_quiet_lit (by kernel_rfl) (by kernel_rfl) ?_
 repeat (quiet_step (fail))
 refine wpQuiet_step (fun K hK=>?_)
 go_simp
 apply Exists.intro
 refine⟨fun _=>(HS.out _),hK _ ?_⟩
 clear hK K
 repeat (quiet_step (fail))
 refine wpQuiet_nil ?_
 intro _ hw'
 obtain⟨nq,hw''⟩:=hw'
 subst hw''
 go_wp2_with fail
 go_ret
 exact⟨rfl,nq,rfl⟩
def TDid(B:Nat)(w:World)(l:List Thing)(tb b:Nat)(r:Int × TS × DS)(e:Ending)(W':World):Prop:=∃ t,e = .returned (.int .i64 r.1)∧IsDrum b r.2.2 t∧Sep B w W' (tapeT tb b r.2.1 :: t :: l)
set_option maxHeartbeats 4000000 in
theorem tsettle_tape(h:Sep B w W (tapeT tb b T :: t :: l))(ht:IsDrum b D t)(hn:D.loose.length≤1000000):Calls Tryz.prog 92 #[.pointer (some ⟨tb,0,none⟩)] W (TDid B w l tb b (T.settle D)):=by
 have hT:=TAt.of h
 have hm:=Lib.hid (tstate_tape hT)
 have c0:=hT.c0
 unfold TS.settle
 by_cases he:T.err=0
 ·rw[if_neg (by omega)]
  have hc:=settle_sep h.swap ht hn
  have HC:=Lib.hid hc
  rw[he]at hm
  clear hc h hT
  go_enter Tryz.func92,Tryz.ntmps92
  go_wp2_with fail
  refine hm.out.mono ?_
  rintro e w' ⟨rfl,rfl⟩
  go_wp2_with fail
  refine HC.out.mono ?_
  rintro e W1 ⟨t1,rfl,ht1,hs1⟩
  have hT1:=TAt.of hs1.swap
  have f4:=hT1.free 4
  have hs2:=sep_setT hs1.swap (hT1.setE D.settle.1)
  have c4:=hT1.c4
  have HS2:=Lib.hid hs2
  clear hs1 hs2 hT1
  go_wp2_with fail
  go_ret
  exact⟨t1,rfl,ht1,HS2.out⟩
 ·rw[if_pos he]
  have hbd:(T.err == 0)=false:=by simpa using he
  have H:=Lib.hid h
  clear h hT
  go_enter Tryz.func92,Tryz.ntmps92
  go_wp2_with fail
  refine hm.out.mono ?_
  rintro e w' ⟨rfl,rfl⟩
  go_wp2
  go_ret
  exact⟨t,rfl,ht,H.out⟩
theorem new_setRow{A W:World}(h:NewMem A W){g:Nat}(hg:A.heap.size≤g)(cs:Array Value):NewMem A (W.setRow g cs):=
 ⟨h.os,h.tape,h.output,by rw[size_setRow];exact h.size,fun k hk=>(setRow_other W g k cs (by omega)).trans (h.block k hk)⟩
def newF(B0:Nat):Fact NewMem:=⟨fun v W=>∃ k,v = .pointer (some ⟨k,0,none⟩)∧B0≤k∧W.heap[k]? = some (.cells #[.int .i64 0,.int .i64 0,.int .i64 0,.bool false,.string ByteArray.empty] 226 (0,0)),fun v W W' ⟨k,e,hk,hc⟩ hn=>⟨k,e,hk,(hn.block _ (Array.getElem?_eq_some_iff.1 hc).1).trans hc⟩⟩
def PutS(B:Nat)(w:World)(l:List Thing)(b:Nat)(D D':DS)(x:Bool)(W:World):Prop:=∃ t,IsDrum b (if x then D' else D) t∧Sep B w W (t :: l)
def AppR(T:TS)(D:DS)(s:List UInt8)(B:Nat)(w:World)(l:List Thing)(tb b N n:Nat)(i:Value)(wr:World):Prop:=
 ∃ (k:Nat) (D1:DS) (t1:Thing),i = .int .i64 (k:Int)∧k≤n∧IsDrum b D1 t1∧T.puts s (List.range' 0 n) D=T.puts s (List.range' k (n - k)) D1∧D1.sure.length=N∧D1.loose.length≤D.loose.length+k∧Sep B w wr (tapeT tb b T :: t1 :: l)
theorem puts_more(T:TS)(s:List UInt8)(k n:Nat)(h:k < n)(D:DS):T.puts s (List.range' k (n - k)) D=if (D.write ((T.at_+k:Nat):Int) (layN (secOf T.life (T.count+1) s k))).1=0 then T.puts s (List.range' (k+1) (n - (k+1))) (D.write ((T.at_+k:Nat):Int) (layN (secOf T.life (T.count+1) s k))).2 else D.write ((T.at_+k:Nat):Int) (layN (secOf T.life (T.count+1) s k)):=by
 rw[show n - k=(n - (k+1))+1 by omega,List.range'_succ,TS.puts]
theorem piece_cut(s:ByteArray)(k:Nat)(h:51 * k≤s.size):s.extract (51 * k) (min s.size (51 * k+51))=⟨(piece s.data.toList k).toArray⟩:=by
 have hs:s.size=s.data.toList.length:=Lib.size_eq s
 rw[Lib.extract_eq]
 unfold piece
 congr 2
 rw[hs]at h ⊢
 rw[List.take_eq_take_iff,List.length_drop]
 omega
set_option maxRecDepth 100000 in
set_option maxHeartbeats 8000000 in
theorem append_tape(h:Sep B w W (tapeT tb b T :: t :: l))(ht:IsDrum b D t)(hn:D.loose.length≤500000)(s:ByteArray)(hs:s.size≤1000000)(ha:T.at_≤D.sure.length)(hl:T.life < 9223372036854775808)(hc:T.count≤1000000) :
  Calls Tryz.prog 91 #[.pointer (some ⟨tb,0,none⟩),.string s] W (TDid B w l tb b (T.append D s.data.toList)):=by
 have hT:=TAt.of h
 have hm:=Lib.hid (tstate_tape hT)
 have hsl:s.data.toList.length=s.size:=(Lib.size_eq s).symm
 have hf:D.sure.length≤4096:=by
  obtain⟨sb,cap,lv,rfl⟩:=ht
  have hd:DrumAt W b sb cap lv D:=(h.all (drumT b sb cap lv D) (by simp)).1
  exact hd.few
 obtain⟨sl,hsl'⟩:∃ sl,sl=s.data.toList:=⟨_,rfl⟩
 rw[← hsl']at hsl ⊢
 unfold TS.append
 by_cases he:T.err=0
 ·rw[if_neg (by omega),hsl]
  have hneed:=Lib.hid (need_any s.size (by omega) W)
  have hroom:=Lib.hid (troom_tape h ht ha)
  obtain⟨n,hnd⟩:∃ n,n=needN s.size:=⟨_,rfl⟩
  have hn0:0 < n∧51 * (n - 1)≤s.size∧n≤20000:=by
   have h1:=needN_pos s.size
   have h2:=needN_le s.size
   refine⟨by omega,?_,by omega⟩
   rcases Nat.lt_or_ge 1 n with h3 | h3
   ·have:=needN_lt s.size (n - 2) (by omega)
    rw[show n - 2+1=n - 1 by omega]at this;omega
   ·rw[show n - 1=0 by omega];omega
  obtain⟨N,hN⟩:∃ N,N=D.sure.length:=⟨_,rfl⟩
  rw[← hnd]at hneed ⊢
  rw[← hN]at hroom hf ha ⊢
  rw[he]at hm
  have hstart:AppR T D sl B w l tb b N n (.int .i64 0) W:=⟨0,D,t,rfl,by omega,ht,rfl,hN.symm,by omega,h⟩
  have HST:=Lib.hid hstart
  have H:=Lib.hid h
  have HND:=Lib.hid hnd
  have HN0:=Lib.hid hn0
  have HNN:=Lib.hid hN
  have HSL:=Lib.hid hsl
  have HSL':=Lib.hid hsl'
  have HT:=Lib.hid ht
  clear hT h hstart hnd hn0 hN hsl hsl' ht
  by_cases hroomy:N - T.at_ < n
  ·rw[if_pos hroomy]
   have hd:decide (N - T.at_ < n)=true:=decide_eq_true hroomy
   go_enter Tryz.func91,Tryz.ntmps91
   go_wp2_with fail
   refine hm.out.mono ?_
   rintro e w' ⟨rfl,rfl⟩
   go_wp2_with fail
   refine hneed.out.mono ?_
   rintro e w' ⟨rfl,rfl⟩
   go_wp2_with fail
   refine hroom.out.mono ?_
   rintro e w' ⟨rfl,m,rfl⟩
   go_wp2_with fail
   go_ret
   exact⟨t,rfl,HT.out,H.out.drewN m⟩
  ·rw[if_neg hroomy]
   obtain⟨r,hr⟩:∃ r:Int × TS × DS,r=(if (T.puts sl (List.range' 0 n) D).1=0 then (0,⟨T.count+1,T.life,T.at_+n,0⟩,(T.puts sl (List.range' 0 n) D).2)else ((T.puts sl (List.range' 0 n) D).1,{ T with err:=(T.puts sl (List.range' 0 n) D).1 },(T.puts sl (List.range' 0 n) D).2)):=⟨_,rfl⟩
   rw[← hr]
   have HRR:=Lib.hid hr
   clear hr
   have hd:decide (N - T.at_ < n)=false:=decide_eq_false hroomy
   go_enter Tryz.func91,Tryz.ntmps91
   go_wp2_with fail
   refine hm.out.mono ?_
   rintro e w' ⟨rfl,rfl⟩
   go_wp2_with fail
   refine hneed.out.mono ?_
   rintro e w' ⟨rfl,rfl⟩
   go_wp2_with fail
   refine hroom.out.mono ?_
   rintro e w' ⟨rfl,m,rfl⟩
   go_wp2_with fail
   go_loopw [23] (fun i wr=>AppR T D sl B w l tb b N n i wr) (fun i _=>n - (intOf i).toNat)
   case atStart=>
    obtain⟨k0,D0,t0,e0,hk0,ht0,hp0,hl0,ho0,hs0⟩:=HST.out
    exact⟨k0,D0,t0,e0,hk0,ht0,hp0,hl0,ho0,hs0.drewN m⟩
   case round=>
    obtain⟨k,D1,t1,rfl,hk,ht1,hputs,hlen,hlo,hsep⟩:=hrel
    have HSP:=Lib.hid hsep
    have HT1:=Lib.hid ht1
    have HPU:=Lib.hid hputs
    have HLN:=Lib.hid hlen
    have HLO:=Lib.hid hlo
    clear hsep ht1 hputs hlen hlo hm hneed hroom
    by_cases hlt:k < n
    ·have h1:wrap64 (51 * (k:Int))=((51 * k:Nat):Int):=by rw[show(51:Int) * (k:Int)=((51 * k:Nat):Int)by omega];exact w_id (by have:=HN0.out;omega)
     have hdk:decide (k < n)=true:=decide_eq_true hlt
     have hcut:=piece_cut s k (by have:=HN0.out;omega)
     have hcnd:0≤51 * (k:Int)∧51 * (k:Int)≤min (s.size:Int) (51 * (k:Int)+51):=by have:=HN0.out;omega
     go_wp2_with fail
     rw[show(min (s.size:Int) (51 * (k:Int)+51)).toNat=min s.size (51 * k+51)by omega,hcut]
     have hta:∀ W,NewMem wr W→TAt W tb b T:=fun W hW=>TAt.of (HSP.out.grown hW)
     have HTA:=Lib.hid hta
     clear hta hcnd hcut h1 hdk
     refine' wp_region_facts (S:=(NewMem wr)) (R:=NewMem) [eqF _ _,eqF _ _,eqF _ _,eqF _ (.int .i64 (T.life:Int)),eqF _ _,eqF _ _,eqF _ _,eqF _ (.int .i64 (T.count:Int)),eqF _ _,eqF _ _,eqF _ _,eqF _ _,eqF _ _,eqF _ _,eqF _ _,eqF _ _,newF wr.heap.size] (by kernel_rfl) (by kernel_rfl) ?hS ?h0 (Ord.steps_cons ?s0 (Ord.steps_cons ?s1 (Ord.steps_cons ?s2 (Ord.steps_cons ?s3 (Ord.steps_cons ?s4 (Ord.steps_cons ?s5 (Ord.steps_cons ?s6 (Ord.steps_cons ?s7 (Ord.steps_cons ?s8 (Ord.steps_cons ?s9 (Ord.steps_cons ?s10 (Ord.steps_cons ?s11 (Ord.steps_cons ?s12 (Ord.steps_cons ?s13 (Ord.steps_cons ?s14 (Ord.steps_cons ?s15 (Ord.steps_cons ?s16 (Ord.steps_nil)))))))))))))))))) ?fin
     case s0=>
      intro g W hSW hd
      try simp only[Nat.zero_add,Nat.reduceAdd]at hd ⊢
      with_reducible refine OpGives.pre_reads [] 93 ?_ ?_ ?_
      ·rfl
      ·kernel_rfl
      simp only[List.map_cons,List.map_nil]
      refine OpGives.val (w':=W) ?_ ⟨NewMem.refl _,rfl⟩
      go_simp
      try with_reducible rfl
     case s1=>
      intro g W hSW hd
      try simp only[Nat.zero_add,Nat.reduceAdd]at hd ⊢
      have h0:g 0=_:=hd 0 (by decide) (by kernel_rfl)
      with_reducible refine OpGives.pre_reads [(36,0)] 93 ?_ ?_ ?_
      ·rfl
      ·kernel_rfl
      simp only[List.map_cons,List.map_nil]
      refine OpGives.val (w':=W) ?_ ⟨NewMem.refl _,rfl⟩
      go_simp
      try with_reducible rfl
     case s2=>
      intro g W hSW hd
      try simp only[Nat.zero_add,Nat.reduceAdd]at hd ⊢
      have h1:g 1=_:=hd 1 (by decide) (by kernel_rfl)
      with_reducible refine OpGives.pre_reads [(37,1)] 93 ?_ ?_ ?_
      ·rfl
      ·kernel_rfl
      simp only[List.map_cons,List.map_nil]
      refine OpGives.val (w':=W) ?_ ⟨NewMem.refl _,rfl⟩
      go_simp
      try with_reducible rfl
     case s3=>
      intro g W hSW hd
      try simp only[Nat.zero_add,Nat.reduceAdd]at hd ⊢
      have h2:g 2=_:=hd 2 (by decide) (by kernel_rfl)
      with_reducible refine OpGives.pre_reads [(38,2)] 93 ?_ ?_ ?_
      ·rfl
      ·kernel_rfl
      simp only[List.map_cons,List.map_nil]
      have c2:=(HTA.out W hSW).c2;refine OpGives.val (w':=W) ?_ ⟨NewMem.refl _,rfl⟩;go_simp
     case s4=>
      intro g W hSW hd
      try simp only[Nat.zero_add,Nat.reduceAdd]at hd ⊢
      with_reducible refine OpGives.pre_reads [] 93 ?_ ?_ ?_
      ·rfl
      ·kernel_rfl
      simp only[List.map_cons,List.map_nil]
      refine OpGives.val (w':=W) ?_ ⟨NewMem.refl _,rfl⟩
      go_simp
      try with_reducible rfl
     case s5=>
      intro g W hSW hd
      try simp only[Nat.zero_add,Nat.reduceAdd]at hd ⊢
      have h4:g 4=_:=hd 4 (by decide) (by kernel_rfl)
      with_reducible refine OpGives.pre_reads [(40,4)] 93 ?_ ?_ ?_
      ·rfl
      ·kernel_rfl
      simp only[List.map_cons,List.map_nil]
      refine OpGives.val (w':=W) ?_ ⟨NewMem.refl _,rfl⟩
      go_simp
      try with_reducible rfl
     case s6=>
      intro g W hSW hd
      try simp only[Nat.zero_add,Nat.reduceAdd]at hd ⊢
      have h5:g 5=_:=hd 5 (by decide) (by kernel_rfl)
      with_reducible refine OpGives.pre_reads [(41,5)] 93 ?_ ?_ ?_
      ·rfl
      ·kernel_rfl
      simp only[List.map_cons,List.map_nil]
      refine OpGives.val (w':=W) ?_ ⟨NewMem.refl _,rfl⟩
      go_simp
      try with_reducible rfl
     case s7=>
      intro g W hSW hd
      try simp only[Nat.zero_add,Nat.reduceAdd]at hd ⊢
      have h6:g 6=_:=hd 6 (by decide) (by kernel_rfl)
      with_reducible refine OpGives.pre_reads [(42,6)] 93 ?_ ?_ ?_
      ·rfl
      ·kernel_rfl
      simp only[List.map_cons,List.map_nil]
      have c1:=(HTA.out W hSW).c1;refine OpGives.val (w':=W) ?_ ⟨NewMem.refl _,rfl⟩;go_simp
     case s8=>
      intro g W hSW hd
      try simp only[Nat.zero_add,Nat.reduceAdd]at hd ⊢
      have h7:g 7=_:=hd 7 (by decide) (by kernel_rfl)
      with_reducible refine OpGives.pre_reads [(43,7)] 93 ?_ ?_ ?_
      ·rfl
      ·kernel_rfl
      simp only[List.map_cons,List.map_nil]
      refine OpGives.val (w':=W) ?_ ⟨NewMem.refl _,rfl⟩
      go_simp
      try with_reducible rfl
     case s9=>
      intro g W hSW hd
      try simp only[Nat.zero_add,Nat.reduceAdd]at hd ⊢
      with_reducible refine OpGives.pre_reads [] 93 ?_ ?_ ?_
      ·rfl
      ·kernel_rfl
      simp only[List.map_cons,List.map_nil]
      refine OpGives.val (w':=W) ?_ ⟨NewMem.refl _,rfl⟩
      go_simp
      try with_reducible rfl
     case s10=>
      intro g W hSW hd
      try simp only[Nat.zero_add,Nat.reduceAdd]at hd ⊢
      with_reducible refine OpGives.pre_reads [] 93 ?_ ?_ ?_
      ·rfl
      ·kernel_rfl
      simp only[List.map_cons,List.map_nil]
      refine OpGives.val (w':=W) ?_ ⟨NewMem.refl _,rfl⟩
      go_simp
      try with_reducible rfl
     case s11=>
      intro g W hSW hd
      try simp only[Nat.zero_add,Nat.reduceAdd]at hd ⊢
      with_reducible refine OpGives.pre_reads [] 93 ?_ ?_ ?_
      ·rfl
      ·kernel_rfl
      simp only[List.map_cons,List.map_nil]
      refine OpGives.val (w':=W) ?_ ⟨NewMem.refl _,rfl⟩
      go_simp
      try with_reducible rfl
     case s12=>
      intro g W hSW hd
      try simp only[Nat.zero_add,Nat.reduceAdd]at hd ⊢
      have h11:g 11=_:=hd 11 (by decide) (by kernel_rfl)
      with_reducible refine OpGives.pre_reads [(47,11)] 93 ?_ ?_ ?_
      ·rfl
      ·kernel_rfl
      simp only[List.map_cons,List.map_nil]
      refine OpGives.val (w':=W) ?_ ⟨NewMem.refl _,rfl⟩
      go_simp
      try with_reducible rfl
     case s13=>
      intro g W hSW hd
      try simp only[Nat.zero_add,Nat.reduceAdd]at hd ⊢
      have h10:g 10=_:=hd 10 (by decide) (by kernel_rfl)
      have h12:g 12=_:=hd 12 (by decide) (by kernel_rfl)
      with_reducible refine OpGives.pre_reads [(46,10),(48,12)] 93 ?_ ?_ ?_
      ·rfl
      ·kernel_rfl
      simp only[List.map_cons,List.map_nil]
      refine OpGives.val (w':=W) ?_ ⟨NewMem.refl _,rfl⟩
      go_simp
      try with_reducible rfl
     case s14=>
      intro g W hSW hd
      try simp only[Nat.zero_add,Nat.reduceAdd]at hd ⊢
      with_reducible refine OpGives.pre_reads [] 93 ?_ ?_ ?_
      ·rfl
      ·kernel_rfl
      simp only[List.map_cons,List.map_nil]
      refine OpGives.val (w':=W) ?_ ⟨NewMem.refl _,rfl⟩
      go_simp
      try with_reducible rfl
     case s15=>
      intro g W hSW hd
      try simp only[Nat.zero_add,Nat.reduceAdd]at hd ⊢
      have h3:g 3=_:=hd 3 (by decide) (by kernel_rfl)
      have h8:g 8=_:=hd 8 (by decide) (by kernel_rfl)
      have h9:g 9=_:=hd 9 (by decide) (by kernel_rfl)
      have h13:g 13=_:=hd 13 (by decide) (by kernel_rfl)
      have h14:g 14=_:=hd 14 (by decide) (by kernel_rfl)
      with_reducible refine OpGives.pre_reads [(39,3),(44,8),(45,9),(49,13),(50,14)] 93 ?_ ?_ ?_
      ·rfl
      ·kernel_rfl
      simp only[List.map_cons,List.map_nil]
      refine OpGives.val (w':=W) ?_ ⟨NewMem.refl _,rfl⟩
      go_simp
      try with_reducible rfl
     case s16=>
      intro g W hSW hd
      try simp only[Nat.zero_add,Nat.reduceAdd]at hd ⊢
      with_reducible refine OpGives.pre_reads [] 93 ?_ ?_ ?_
      ·rfl
      ·kernel_rfl
      simp only[List.map_cons,List.map_nil]
      refine OpGives.val (v:=.pointer (some ⟨W.heap.size,0,none⟩)) (w':=W.alloc (.cells #[.int .i64 0,.int .i64 0,.int .i64 0,.bool false,.string ByteArray.empty] 226)) ?_ ⟨NewMem.alloc _ _,W.heap.size,rfl,hSW.size,heap_alloc_last _ _⟩;go_simp;rfl
     case hS=>exact fun a c h k=>NewMem.trans h k
     case h0=>exact bdN' (n:=1) (Below.refl _ _)
     case fin=>
      intro v W' hSW hf
      have h15:v 15=_:=hf 15 (Nat.lt_of_lt_of_eq (by decide:15 < 17) rfl)
      have h16:=hf 16 (Nat.lt_of_lt_of_eq (by decide:16 < 17) rfl)
      obtain⟨kb,e16,hkb,hcell⟩:=h16
      have hw1:IntKind.i64.wrap ((T.count:Int)+1)=((T.count+1:Nat):Int):=by rw[IntKind.wrap_i64];omega
      have hw2:((k:Int) == IntKind.i64.wrap ((n:Int) - 1))=decide (k+1=needN sl.length):=by
       rw[IntKind.wrap_i64,HSL.out,← HND.out]
       have:=HN0.out
       by_cases hkn:k+1=n
       ·rw[decide_eq_true hkn];simp;omega
       ·rw[decide_eq_false hkn];simp;omega
      rw[hw1,hw2,← HSL'.out]at h15
      have hX:v 15 = .agg (secCs (some (secOf T.life (T.count+1) sl k))):=h15
      clear h15 hw1 hw2 hf
      obtain⟨X,hXX⟩:∃ X,X=secOf T.life (T.count+1) sl k:=⟨_,rfl⟩
      rw[← hXX]at hX
      have hinfo:=sec_info (some X)
      have hn2:NewMem wr (W'.setRow kb (secCs (some X))):=new_setRow hSW hkb _
      have hc2:(W'.setRow kb (secCs (some X))).heap[kb]? = some (.cells (secCs (some X)) 226 (0,0)):=setRow_heap _ _ _ _ _ _ hcell
      have hsep2:Sep B w (W'.setRow kb (secCs (some X))) (blockT kb (secCs (some X)) 226 :: tapeT tb b T :: t1 :: l):=HSP.out.new hn2 hc2 (fun k hk=>by rw[hk];exact hkb)
      have HS2:=Lib.hid hsep2
      have HXX:=Lib.hid hXX
      clear hn2 hc2 hsep2 hSW hXX
      generalize hF:Ord.pre _ _ v _=F
      rw[Ord.pre_lit [some 36,some 37,some 38,some 39,some 40,some 41,some 42,some 43,some 44,some 45,some 46,some 47,some 48,some 49,some 50,some 51,some 9]
       (by kernel_rfl)]at hF
      simp only[Ord.puts,Nat.zero_add,Nat.reduceAdd]at hF
      subst hF
      rw[hX,e16]
      clear hX e16
      refine any_one (i:=17) (by kernel_rfl) (wpOp_skip (w':=W'.setRow kb (secCs (some X))) rfl rfl (exec_store_row 226 _ _ rfl kb (secCs (some X)) (by kernel_rfl) (by kernel_rfl) 226 _ hcell hinfo.1 hinfo.2.1 hinfo.2.2) ?_)
      clear hcell hinfo
      generalize W'.setRow kb (secCs (some X))=W2 at *
      refine wpAny_done (by kernel_rfl) ?_ _
      try simp only[List.getElem_toArray,List.getElem_cons_succ,List.getElem_cons_zero]
      go_frame
      go_wp2_with fail
      obtain⟨y,hy⟩:∃ y,y=D1.write ((T.at_+k:Nat):Int) (layN X):=⟨_,rfl⟩
      have HY:=Lib.hid hy
      have hwl:=write_len D1 ((T.at_+k:Nat):Int) (layN X)
      rw[← hy]at hwl
      have HWL:=Lib.hid hwl
      have hXok:X.s.length≤51∧X.life < 9223372036854775808∧X.record < 9223372036854775808∧X.part < 9223372036854775808:=by
       rw[HXX.out]
       exact⟨secOf_len _ _ _ _,hl,by show T.count+1 < _;omega,by show k < _;have:=HN0.out;omega⟩
      have HXO:=Lib.hid hXok
      have hlo1:D1.loose.length≤1000000:=by have:=HLO.out;have:=HN0.out;omega
      have HLO1:=Lib.hid hlo1
      have htz:∀ W L,PutS B w (blockT kb (secCs (some X)) 226 :: tapeT tb b T :: l) b D1 y.2 L W→TAt W tb b T∧W.heap[kb]? = some (.cells (secCs (some X)) 226 (0,0)):=fun W L ⟨t',_,hs'⟩=>⟨(hs'.all (tapeT tb b T) (by simp)).1,(hs'.all (blockT kb (secCs (some X)) 226) (by simp)).1⟩
      have HTZ:=Lib.hid htz
      clear hy hwl hXok hlo1 htz HTA
      have hat:IntKind.i64.wrap ((T.at_:Int)+(k:Int))=((T.at_+k:Nat):Int):=by have:=HN0.out;rw[IntKind.wrap_i64];omega
      refine' wp_region_factsM (S:=(fun L W=>PutS B w (blockT kb (secCs (some X)) 226 :: tapeT tb b T :: l) b D1 y.2 (L 13) W)) (fun _ _ _=>True) [eqM _,eqM _,eqM _,eqM _,eqM (.pointer (some ⟨b,0,none⟩)),eqM _,eqM _,eqM _,eqM (.int .i64 (T.at_:Int)),eqM _,eqM (.int .i64 ((T.at_+k:Nat):Int)),eqM (.agg (secCs (some X))),eqM (.string ⟨(layN X).toArray⟩),eqM (.int .i64 y.1)] (by kernel_rfl) (by kernel_rfl) ?hst ?h0 (Ord.stepsM_cons ?s0 (Ord.stepsM_cons ?s1 (Ord.stepsM_cons ?s2 (Ord.stepsM_cons ?s3 (Ord.stepsM_cons ?s4 (Ord.stepsM_cons ?s5 (Ord.stepsM_cons ?s6 (Ord.stepsM_cons ?s7 (Ord.stepsM_cons ?s8 (Ord.stepsM_cons ?s9 (Ord.stepsM_cons ?s10 (Ord.stepsM_cons ?s11 (Ord.stepsM_cons ?s12 (Ord.stepsM_cons ?s13 (Ord.stepsM_nil))))))))))))))) ?fin
      case s0=>
       intro g W L hL hSW hd
       try simp only[Nat.zero_add,Nat.reduceAdd]at hd ⊢
       with_reducible refine OpGives.pre_reads [] 93 ?_ ?_ ?_
       ·rfl
       ·kernel_rfl
       simp only[List.map_cons,List.map_nil]
       refine OpGives.val (w':=W) ?_ ⟨trivial,rfl,hSW⟩
       go_simp
       try with_reducible rfl
      case s1=>
       intro g W L hL hSW hd
       try simp only[Nat.zero_add,Nat.reduceAdd]at hd ⊢
       with_reducible refine OpGives.pre_reads [] 93 ?_ ?_ ?_
       ·rfl
       ·kernel_rfl
       simp only[List.map_cons,List.map_nil]
       refine OpGives.val (w':=W) ?_ ⟨trivial,rfl,hSW⟩
       go_simp
       try with_reducible rfl
      case s2=>
       intro g W L hL hSW hd
       try simp only[Nat.zero_add,Nat.reduceAdd]at hd ⊢
       have h1:g 1=_:=hd 1 (by decide) (by kernel_rfl)
       with_reducible refine OpGives.pre_reads [(53,1)] 93 ?_ ?_ ?_
       ·rfl
       ·kernel_rfl
       simp only[List.map_cons,List.map_nil]
       refine OpGives.val (w':=W) ?_ ⟨trivial,rfl,hSW⟩
       go_simp
       try with_reducible rfl
      case s3=>
       intro g W L hL hSW hd
       try simp only[Nat.zero_add,Nat.reduceAdd]at hd ⊢
       have h2:g 2=_:=hd 2 (by decide) (by kernel_rfl)
       with_reducible refine OpGives.pre_reads [(54,2)] 93 ?_ ?_ ?_
       ·rfl
       ·kernel_rfl
       simp only[List.map_cons,List.map_nil]
       refine OpGives.val (w':=W) ?_ ⟨trivial,rfl,hSW⟩
       go_simp
       try with_reducible rfl
      case s4=>
       intro g W L hL hSW hd
       try simp only[Nat.zero_add,Nat.reduceAdd]at hd ⊢
       have h3:g 3=_:=hd 3 (by decide) (by kernel_rfl)
       with_reducible refine OpGives.pre_reads [(55,3)] 93 ?_ ?_ ?_
       ·rfl
       ·kernel_rfl
       simp only[List.map_cons,List.map_nil]
       have c0:=(HTZ.out W _ hSW).1.c0;refine OpGives.val (w':=W) ?_ ⟨trivial,rfl,hSW⟩;go_simp
      case s5=>
       intro g W L hL hSW hd
       try simp only[Nat.zero_add,Nat.reduceAdd]at hd ⊢
       with_reducible refine OpGives.pre_reads [] 93 ?_ ?_ ?_
       ·rfl
       ·kernel_rfl
       simp only[List.map_cons,List.map_nil]
       refine OpGives.val (w':=W) ?_ ⟨trivial,rfl,hSW⟩
       go_simp
       try with_reducible rfl
      case s6=>
       intro g W L hL hSW hd
       try simp only[Nat.zero_add,Nat.reduceAdd]at hd ⊢
       have h5:g 5=_:=hd 5 (by decide) (by kernel_rfl)
       with_reducible refine OpGives.pre_reads [(57,5)] 93 ?_ ?_ ?_
       ·rfl
       ·kernel_rfl
       simp only[List.map_cons,List.map_nil]
       refine OpGives.val (w':=W) ?_ ⟨trivial,rfl,hSW⟩
       go_simp
       try with_reducible rfl
      case s7=>
       intro g W L hL hSW hd
       try simp only[Nat.zero_add,Nat.reduceAdd]at hd ⊢
       have h6:g 6=_:=hd 6 (by decide) (by kernel_rfl)
       with_reducible refine OpGives.pre_reads [(58,6)] 93 ?_ ?_ ?_
       ·rfl
       ·kernel_rfl
       simp only[List.map_cons,List.map_nil]
       refine OpGives.val (w':=W) ?_ ⟨trivial,rfl,hSW⟩
       go_simp
       try with_reducible rfl
      case s8=>
       intro g W L hL hSW hd
       try simp only[Nat.zero_add,Nat.reduceAdd]at hd ⊢
       have h7:g 7=_:=hd 7 (by decide) (by kernel_rfl)
       with_reducible refine OpGives.pre_reads [(59,7)] 93 ?_ ?_ ?_
       ·rfl
       ·kernel_rfl
       simp only[List.map_cons,List.map_nil]
       have c3:=(HTZ.out W _ hSW).1.c3;refine OpGives.val (w':=W) ?_ ⟨trivial,rfl,hSW⟩;go_simp
      case s9=>
       intro g W L hL hSW hd
       try simp only[Nat.zero_add,Nat.reduceAdd]at hd ⊢
       with_reducible refine OpGives.pre_reads [] 93 ?_ ?_ ?_
       ·rfl
       ·kernel_rfl
       simp only[List.map_cons,List.map_nil]
       refine OpGives.val (w':=W) ?_ ⟨trivial,rfl,hSW⟩
       go_simp
       try with_reducible rfl
      case s10=>
       intro g W L hL hSW hd
       try simp only[Nat.zero_add,Nat.reduceAdd]at hd ⊢
       have h8:g 8=_:=hd 8 (by decide) (by kernel_rfl)
       have h9:g 9=_:=hd 9 (by decide) (by kernel_rfl)
       with_reducible refine OpGives.pre_reads [(60,8),(61,9)] 93 ?_ ?_ ?_
       ·rfl
       ·kernel_rfl
       simp only[List.map_cons,List.map_nil]
       refine OpGives.val (w':=W) ?_ ⟨trivial,rfl,hSW⟩
       go_simp
       try with_reducible rfl
      case s11=>
       intro g W L hL hSW hd
       try simp only[Nat.zero_add,Nat.reduceAdd]at hd ⊢
       with_reducible refine OpGives.pre_reads [] 93 ?_ ?_ ?_
       ·rfl
       ·kernel_rfl
       simp only[List.map_cons,List.map_nil]
       refine OpGives.val (w':=W) (exec_load_row 226 _ rfl kb ?_ _ _ (0,0) _ (HTZ.out W _ hSW).2 Tryz.underlying226 rfl (sec_info (some X)).1) ⟨trivial,rfl,hSW⟩;rfl
      case s12=>
       intro g W L hL hSW hd
       try simp only[Nat.zero_add,Nat.reduceAdd]at hd ⊢
       have h11:g 11=_:=hd 11 (by decide) (by kernel_rfl)
       with_reducible refine OpGives.pre_reads [(63,11)] 93 ?_ ?_ ?_
       ·rfl
       ·kernel_rfl
       simp only[List.map_cons,List.map_nil]
       refine OpGives.call (f:=129) (args:=#[.agg (secCs (some X))]) (w':=W) (by go_simp) ((lay_any X HXO.out.1 HXO.out.2.1 HXO.out.2.2.1 HXO.out.2.2.2 W).mono fun e w' ⟨he,hn⟩=>⟨_,he,trivial,rfl,by obtain⟨t',h1,h2⟩:=hSW;exact⟨t',h1,h2.grown hn⟩⟩)
      case s13=>
       intro g W L hL hSW hd
       try simp only[Nat.zero_add,Nat.reduceAdd]at hd ⊢
       have h4:g 4=_:=hd 4 (by decide) (by kernel_rfl)
       have h10:g 10=_:=hd 10 (by decide) (by kernel_rfl)
       have h12:g 12=_:=hd 12 (by decide) (by kernel_rfl)
       with_reducible refine OpGives.pre_reads [(56,4),(62,10),(64,12)] 93 ?_ ?_ ?_
       ·rfl
       ·kernel_rfl
       simp only[List.map_cons,List.map_nil]
       obtain⟨t',h1,h2⟩:=hSW;rw[hL]at h1;have h1:IsDrum b D1 t':=h1;have hwv:=write_sep h2 h1 ((T.at_+k:Nat):Int) ⟨(layN X).toArray⟩ (by rw[Lib.size_eq];show(layN X).length≤_;rw[layN_len HXO.out.1];decide) HLO1.out;have e0:D1.write ((T.at_+k:Nat):Int) (⟨(layN X).toArray⟩:ByteArray).data.toList=y:=HY.out.symm;rw[e0]at hwv;refine OpGives.call (f:=128) (args:=#[.pointer (some ⟨b,0,none⟩),.int .i64 ((T.at_+k:Nat):Int),.string ⟨(layN X).toArray⟩]) (w':=W) (by go_simp) (hwv.mono fun e w' ⟨t2,he,hd,hs⟩=>⟨_,he,trivial,rfl,t2,by simpa using hd,hs⟩)
      case hst=>exact fun i j v w w' _ h _=>st_of (R:=fun _ _=>True) (by repeat' first | exact trivial | with_reducible refine StL.eq ?_ | with_reducible refine StL.any ?_) i v w w' h trivial
      case h0=>exact⟨t1,HT1.out,(HS2.out.perm (by exact(List.perm_middle (l₁:=[_,_])))).grown (bdN' (n:=1) (Below.refl _ _))⟩
      case fin=>
       intro v W3 L hL hSW hf
       have h13:v 13=_:=hf 13 (Nat.lt_of_lt_of_eq (by decide:13 < 14) rfl)
       have h0:v 0=_:=hf 0 (Nat.lt_of_lt_of_eq (by decide:0 < 14) rfl)
       have hl13:=hL 13 (Nat.lt_of_lt_of_eq (by decide:13 < 14) rfl)
       have hPS:PutS B w (blockT kb (secCs (some X)) 226 :: tapeT tb b T :: l) b D1 y.2 (L 13) W3:=hSW
       rw[hl13]at hPS
       have HPS:=Lib.hid hPS
       clear hf hL hl13 hSW hPS
       generalize hF:Ord.pre _ _ v _=F
       rw[Ord.pre_lit [some 52,some 53,some 54,some 55,some 56,some 57,some 58,some 59,some 60,some 61,some 62,some 63,some 64,some 65]
        (by kernel_rfl)]at hF
       simp only[Ord.puts,Nat.zero_add,Nat.reduceAdd]at hF
       subst hF
       rw[h13,h0]
       clear h13 h0
       obtain⟨t2,ht2,hs2⟩:=HPS.out
       have ht2':IsDrum b y.2 t2:=ht2
       have HT2:=Lib.hid ht2'
       clear ht2 ht2'
       have hTT:TAt W3 tb b T:=(hs2.all (tapeT tb b T) (by simp)).1
       have f4:=hTT.free 4
       have c4:=hTT.c4
       have hs3:Sep B w (W3.setCell ⟨tb,4,none⟩ (.int .i64 y.1)) (tapeT tb b { T with err:=y.1 } :: t2 :: l):=by
        have:=(hs2.perm (l':=tapeT tb b T :: t2 :: blockT kb (secCs (some X)) 226 :: l) (List.perm_middle (l₁:=[_,_]) (l₂:=l))).perm (List.Perm.refl _)
        exact sep_setT ((this.perm (l':=blockT kb (secCs (some X)) 226 :: tapeT tb b T :: t2 :: l) (List.perm_middle (l₁:=[_,_]) (l₂:=l))).tail) (hTT.setE y.1)
       have HS3:=Lib.hid hs3
       clear hs2 hs3 hTT
       refine any_one (i:=14) (by kernel_rfl) (wpOp_value (v:=.pointer (some ⟨tb,0,none⟩)) (w':=W3) rfl rfl (by go_simp) ?_)
       refine any_one (i:=15) (by kernel_rfl) (wpOp_value (v:=.pointer (some ⟨tb,4,none⟩)) (w':=W3) rfl rfl (by go_simp) ?_)
       refine any_one (i:=16) (by kernel_rfl) (wpOp_skip (w':=W3.setCell ⟨tb,4,none⟩ (.int .i64 y.1)) rfl rfl (by go_simp) ?_)
       refine wpAny_done (by kernel_rfl) ?_ _
       try simp only[List.getElem_toArray,List.getElem_cons_succ,List.getElem_cons_zero]
       go_frame
       have hpm:=puts_more T sl k n hlt D1
       rw[← HXX.out,← HY.out]at hpm
       have HPM:=Lib.hid hpm
       clear hpm
       by_cases hy0:y.1=0
       ·have HPM0:=Lib.hid (HPM.out.trans (if_pos hy0))
        rw[hy0]at HS3 ⊢
        have hTe:({ T with err:=0 } : TS)=T:=by cases T;simp only at he;subst he;rfl
        rw[hTe]at HS3
        clear c4 hTe
        have c5:=(TAt.of HS3.out).c4
        rw[he]at c5
        generalize W3.setCell ⟨tb,4,none⟩ (.int .i64 0)=W4 at *
        go_wp2_with fail
        go_roundw
        case rel=>
         refine⟨k+1,y.2,t2,by go_num,hlt,HT2.out,HPU.out.trans HPM0.out,HWL.out.1.trans HLN.out,by have:=HWL.out;have:=HLO.out;omega,HS3.out⟩
        case measure=>
         have hm:n - (k+1) < n - k:=by omega
         have ht:((k:Int)+1).toNat=k+1:=by omega
         simp only[intOf,Int.toNat_natCast,ht]
         exact hm
       ·have HPM0:=Lib.hid (HPM.out.trans (if_neg hy0))
        have hyb:(y.1 == 0)=false:=by simpa using hy0
        go_wp2_with fail
        go_ret
        have hall:T.puts sl (List.range' 0 n) D=y:=HPU.out.trans HPM0.out
        have hrr:=HRR.out
        rw[hall,if_neg hy0]at hrr
        rw[hrr]
        exact⟨t2,rfl,HT2.out,HS3.out⟩
    ·obtain rfl:k=n:=by omega
     have hdk:decide (k < k)=false:=decide_eq_false (by omega)
     have hall:T.puts sl (List.range' 0 k) D=(0,D1):=by rw[HPU.out,Nat.sub_self];rfl
     have hrr:=HRR.out
     rw[hall,if_pos rfl]at hrr
     have HR2:=Lib.hid hrr
     have hTT:=TAt.of HSP.out
     have f3:=hTT.free 3
     have f1:=hTT.free 1
     have c1:=hTT.c1
     have c3:=hTT.c3
     have hw1:wrap64 ((T.count:Int)+1)=((T.count+1:Nat):Int):=w_one (by omega)
     have hw2:wrap64 ((T.at_:Int)+(k:Int))=((T.at_+k:Nat):Int):=w_add (by have:=HN0.out;omega)
     have hs2:=sep_setT HSP.out (hTT.setA (T.at_+k))
     have hs3:=sep_setT hs2 ((TAt.of hs2).setC (T.count+1))
     have HS3:=Lib.hid hs3
     clear hall hrr hTT hs2 hs3
     go_wp2_with fail
     go_ret
     rw[HR2.out,show(T.at_:Int)+(k:Int)=((T.at_+k:Nat):Int)by omega,show(T.count:Int)+1=((T.count+1:Nat):Int)by omega]
     have hTe:({ ({ T with at_:=T.at_+k } : TS)with count:=T.count+1 } : TS)=⟨T.count+1,T.life,T.at_+k,0⟩:=by cases T;simp only at he;subst he;rfl
     rw[hTe]at HS3
     exact⟨t1,rfl,HT1.out,HS3.out⟩
 ·rw[if_pos he]
  have hbd:(T.err == 0)=false:=by simpa using he
  have H:=Lib.hid h
  clear h hT
  go_enter Tryz.func91,Tryz.ntmps91
  go_wp2_with fail
  refine hm.out.mono ?_
  rintro e w' ⟨rfl,rfl⟩
  go_wp2
  go_ret
  exact⟨t,rfl,ht,H.out⟩
end
end Go.Proofs.YtlmabbigfdbmbaaGreatDoor.Tape
