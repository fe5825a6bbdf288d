/- Texts of one proof, joined: QWB, Va, Vb, QOA, QOB, QOC, QOD, QA, QB, QC, QQ, QO1, QSC, QD, QE, QF, QG, QI. -/
import Derived.Test.YtlmabbigfdbmbaaGreatDoorYd
import Derived.Test.YtlmabbigfdbmbaaGreatDoorYe
import Derived.Lib.RuneCount
import Derived.Lib.OthersKept
import Derived.Lib.RuneCountTail
import Derived.Defers
import Derived.Recover
import Derived.Laws.Pointers
import Derived.Tactics2
import Derived.WalkSmall
import Derived.Lib.Hide
import Derived.Lib.LaidU8
import Derived.Test.YtlmabbigfdbmbaaGreatDoorYc
import Derived.Test.YtlmabbigfdbmbaaGreatDoorYb
import Derived.Lib.Strings
import Derived.Lib.Walk
import Derived.Lib.Builder
import Derived.Lib.AppendStr
import Derived.Lib.UnsafeStr
import Derived.Laws.Externs
import Derived.Deep.WholeRow
import Derived.Laws.DeepNot64
import Derived.WalkLawsBesides
import Derived.Maps.RangeWalk
import Derived.Laws.Strings2
import Derived.Deep.AppendLies
set_option linter.unusedSimpArgs false
set_option linter.unusedVariables false
namespace Go.Proofs.YtlmabbigfdbmbaaGreatDoor.Shelf
open Go.RowKit Go.Proofs.YtlmabbigfdbmbaaGreatDoor.Ord Go.Proofs.YtlmabbigfdbmbaaGreatDoorW.PrintWords Go.Proofs.YtlmabbigfdbmbaaGreatDoor.Base Go.Proofs.YtlmabbigfdbmbaaGreatDoor.Drum Go.Proofs.YtlmabbigfdbmbaaGreatDoor.Tape
attribute [local go_sem] rdl_const rdl_func rdl_global rdl_nil rdl_cons
attribute [local irreducible] OpGives
section
variable{B:Nat}{w W:World}{l:List Thing}{sb tb pb:Nat}{v:Value}{S:SS}{f:ByteArray→Nat}
theorem smade_at(h:ShelfAt W sb tb pb v S f):Calls Tryz.prog 52 #[.pointer (some ⟨sb,0,none⟩)] W fun e w'=>e = .returned (.bool true)∧w'=W:=by
 have c0:=h.c0
 clear h
 go_enter Tryz.func52,Tryz.ntmps52
 go_wp2
 go_ret
 exact⟨rfl,rfl⟩
theorem slen_at(h:ShelfAt W sb tb pb v S f):Calls Tryz.prog 21 #[.pointer (some ⟨sb,0,none⟩)] W fun e w'=>e = .returned (.int .i64 (S.things.length:Int))∧w'=W:=by
 obtain⟨A,c,rfl⟩:=h.slice
 have c1:=h.c1
 have hm:=Lib.hid (smade_at h)
 clear h
 generalize S.things.length=n at c1 ⊢
 go_enter Tryz.func21,Tryz.ntmps21
 go_wp2_with fail
 refine hm.out.mono ?_
 rintro e w' ⟨rfl,rfl⟩
 go_wp2
 go_ret
 exact⟨rfl,rfl⟩
theorem sfresh_at(h:ShelfAt W sb tb pb v S f)(hle:S.sure≤S.things.length)(hu:S.things.length≤1000000000):Calls Tryz.prog 22 #[.pointer (some ⟨sb,0,none⟩)] W fun e w'=>e = .returned (.int .i64 ((S.things.length - S.sure:Nat):Int))∧∃ n,w'=W.drewN n:=by
 obtain⟨A,c,rfl⟩:=h.slice
 have c1:=fun n=>(h.new (bdN' (n:=n) (Below.refl _ _))).c1
 have c3:=fun n=>(h.new (bdN' (n:=n) (Below.refl _ _))).c3
 have hm:=Lib.hid (smade_at h)
 clear h
 generalize S.things.length=n at c1 hle hu ⊢
 generalize S.sure=m at c3 hle ⊢
 have hw:IntKind.i64.wrap ((n:Int) - (m:Int))=((n - m:Nat):Int):=by rw[IntKind.wrap_i64];omega
 clear hle hu
 go_enter Tryz.func22,Tryz.ntmps22
 go_wp2_with fail
 refine hm.out.mono ?_
 rintro e w' ⟨rfl,rfl⟩
 go_wp2_with fail
 refine wp_region_quiet_lit (by kernel_rfl) (by kernel_rfl) ?_
 repeat (quiet_step (fail))
 refine wpQuiet_nil ?_
 intro _ hw'
 obtain⟨nq,hw''⟩:=hw'
 subst hw''
 go_wp2_with fail
 go_ret
 exact⟨rfl,_,rfl⟩
theorem sbatches_at{b:Nat}{T:TS}(h:ShelfAt W sb tb pb v S f)(hT:TAt W tb b T):Calls Tryz.prog 24 #[.pointer (some ⟨sb,0,none⟩)] W fun e w'=>e = .returned (.int .i64 (T.count:Int))∧w'=W:=by
 have c0:=h.c0
 have hm:=Lib.hid (smade_at h)
 have ht:=Lib.hid (tlen_tape hT)
 clear h hT
 go_enter Tryz.func24,Tryz.ntmps24
 go_wp2_with fail
 refine hm.out.mono ?_
 rintro e w' ⟨rfl,rfl⟩
 go_wp2_with fail
 refine ht.out.mono ?_
 rintro e w' ⟨rfl,rfl⟩
 go_wp2
 go_ret
 exact⟨rfl,rfl⟩
theorem info_thing:(Tryz.prog.info? 108).map (fun i=>(i.zero,i.size,i.bytes))=some (some (.agg #[.string ⟨#[]⟩,.string ⟨#[]⟩]),2,32):=by kernel_rfl
theorem append_thing{L:List Th}{id b:ByteArray}{v:Value}{x:Nat}(hn:L.length≤1000000)(hA:W.ownsRow 0 108 2 v L.length (thingCells L))(hx:W.heap[x]? = some (.cells #[.string id,.string b] 108 (0,0)))(ty:TypeId) :
  ∃ g c W',(Builtin.append_ #[40,40] ty #[v,.slice (some ⟨x,0,none⟩) 1 1]).run Tryz.prog W = .ok (.slice (some ⟨g,0,none⟩) (L.length+1) c) W'∧Mod (fun k=>v.ownBlock=some k) W W'∧
   W'.ownsRow 0 108 2 (.slice (some ⟨g,0,none⟩) (L.length+1) c) (L.length+1) (thingCells (L ++ [(id,b)]))∧(v.ownBlock=some g∨W.heap.size≤g):=by
 obtain⟨i0,hi0,hz0,hz1,hz2⟩:=info_parts info_thing
 obtain⟨h,cap,W',hr,hown,hg,hat,_⟩:=run_append_lies (P:=Tryz.prog) W 40 ty 0 108 i0 _ 2 32 Tryz.underlying40 hi0 hz0 hz1 hz2 (by rfl) (by decide) v L.length _ hA ⟨x,0,none⟩ 1 1 [.string id,.string b]
  rfl (World.news_of_block (by simpa using hx)) (by intro u hu;simp at hu;rcases hu with rfl | rfl<;>rfl) (by decide) (by unfold maxLen;omega) (by omega) (Nat.zero_le _) W.heap.size rfl
 refine⟨h,cap,W',hr,Mod.of_grown hg (fun k hk=>hk),?_,?_⟩
 ·rw[thingCells_append];exact hown
 ·rcases hat with hat | hat
  ·exact .inl hat
  ·exact .inr (by rw[hat];exact Nat.le_refl _)
def Placed(B:Nat)(w:World)(l:List Thing)(sb tb pb:Nat)(r:Int × SS)(e:Ending)(W':World):Prop:=∃ v,e = .returned (.int .i64 r.1)∧Sep B w W' (shelfT sb tb pb v r.2 :: l)
set_option maxHeartbeats 8000000 in
set_option maxRecDepth 100000 in
theorem sput_sep(h:Sep B w W (shelfT sb tb pb v S :: l))(ok:S.ok)(hu:S.ups≤1000000)(id b:ByteArray)(hi:id.size≤1000000) :
  Calls Tryz.prog 55 #[.pointer (some ⟨sb,0,none⟩),.string id,.string b] W (Placed B w l sb tb pb (S.put id b)):=by
 have hS:=ShelfAt.of h
 obtain⟨A,c,rfl⟩:=hS.slice
 have c1:=hS.c1
 have c2:=hS.c2
 have hlk:=hS.map.look (s:=id) (by unfold maxLen;omega)
 have H:=Lib.hid h
 have hlen:=ok.2.2.1
 unfold SS.put
 cases hb:S.bytes id with
 | none=>
  have hp:=SS.bytes_none.1 hb
  rw[hp]at hlk
  obtain⟨W1,hW1⟩:∃ W1,W1=W.alloc (.cells #[.string id,.string b] 108):=⟨_,rfl⟩
  have hn1:NewMem W W1:=by rw[hW1];exact NewMem.alloc _ _
  have hg1:W1.heap[W.heap.size]? = some (.cells #[.string id,.string b] 108 (0,0)):=by rw[hW1];exact heap_alloc_last _ _
  have hS1:=hS.new hn1
  obtain⟨g,cc,W2,hr,hm2,hrow,hat⟩:=append_thing (by omega) hS1.row hg1 40
  have hS3:=hS1.appended hm2 hrow hat S.ups rfl
  have f1:=((hS.nv))
  have hb2:=(hm2.block sb (Array.getElem?_eq_some_iff.1 hS1.box).1 hS1.nv).trans hS1.box
  have d1:W2.cell? ⟨sb,1,none⟩=some (.slice A S.things.length c):=by rw[Lib.cell_of_heap hb2];rfl
  have df:W2.frozen? ⟨sb,1,none⟩=false:=frozen_of_row W2 sb 1 _ _ hb2
  obtain⟨W3,hW3⟩:∃ W3,W3=W2.setCell ⟨sb,1,none⟩ (.slice (some ⟨g,0,none⟩) (S.things.length+1) cc):=⟨_,rfl⟩
  rw[← hW3]at hS3
  have hm3:Mod (fun k=>k=sb∨k=pb∨(Value.slice A S.things.length c).ownBlock=some k) W W3:=by
   have m1:Mod (fun k=>k=sb∨k=pb∨(Value.slice A S.things.length c).ownBlock=some k) W W1:=Mod.of_below hn1
   have m2:=m1.trans hm2 (fun i e=> .inl (.inr (.inr e)))
   rw[hW3]
   exact m2.trans (Mod.setCell (F:=fun k=>k=sb) _ _ _ rfl) (fun i e=> .inl (.inl e))
  have hw1:wrap64 ((S.things.length:Int)+1)=((S.things.length+1:Nat):Int):=w_one (by omega)
  have hs1:=hn1.size
  have hlt:=hlen
  have HR:=Lib.hid hr
  have HS3:=Lib.hid hS3
  have HM3:=Lib.hid hm3
  have HW3:=Lib.hid hW3
  have HAT:=Lib.hid (show(Value.slice A S.things.length c).ownBlock=some g∨W.heap.size≤g by rcases hat with e | e;exact .inl e;exact .inr (by omega))
  have HOK:=Lib.hid (And.intro hlen hu)
  have HP:=Lib.hid hp
  rw[hW1]at HR
  clear h hS hS1 hW1 hn1 hg1 hr hm2 hrow hat hS3 hb2 hm3 hlen hu hp hb ok hs1 hlt f1
  go_enter Tryz.func55,Tryz.ntmps55
  go_wp2_with (refine Drum.wpList_value rfl (exec_append _ _ 40 rfl HR.out) ?_)
  rw[← HW3.out]
  clear hlk c1 c2 d1 df hw1
  refine' wp_region_facts (S:=(NewMem W3)) (R:=NewMem) [eqF _ _,eqF _ _,eqF _ _,eqF _ (.map (some pb)),eqF _ _,eqF _ _,eqF _ _,eqF _ _,eqF _ (.slice (some ⟨g,0,none⟩) (S.things.length+1) cc),eqF _ (.int .i64 ((S.things.length+1:Nat):Int))] (by kernel_rfl) (by kernel_rfl) ?hS ?h0 (Ord.steps_cons ?s0 (Ord.steps_cons ?s1 (Ord.steps_cons ?s2 (Ord.steps_cons ?s3 (Ord.steps_cons ?s4 (Ord.steps_cons ?s5 (Ord.steps_cons ?s6 (Ord.steps_cons ?s7 (Ord.steps_cons ?s8 (Ord.steps_cons ?s9 (Ord.steps_nil))))))))))) ?fin
  case s0=>
   intro g W hSW hd
   try simp only[Nat.zero_add,Nat.reduceAdd]at hd ⊢
   with_reducible refine OpGives.pre_reads [] 49 ?_ ?_ ?_
   ·rfl
   ·kernel_rfl
   simp only[List.map_cons,List.map_nil]
   refine OpGives.val (w':=W) ?_ ⟨NewMem.refl _,rfl⟩
   go_simp
   try with_reducible rfl
  case s1=>
   intro g W hSW hd
   try simp only[Nat.zero_add,Nat.reduceAdd]at hd ⊢
   have h0:g 0=_:=hd 0 (by decide) (by kernel_rfl)
   with_reducible refine OpGives.pre_reads [(39,0)] 49 ?_ ?_ ?_
   ·rfl
   ·kernel_rfl
   simp only[List.map_cons,List.map_nil]
   refine OpGives.val (w':=W) ?_ ⟨NewMem.refl _,rfl⟩
   go_simp
   try with_reducible rfl
  case s2=>
   intro g W hSW hd
   try simp only[Nat.zero_add,Nat.reduceAdd]at hd ⊢
   have h1:g 1=_:=hd 1 (by decide) (by kernel_rfl)
   with_reducible refine OpGives.pre_reads [(40,1)] 49 ?_ ?_ ?_
   ·rfl
   ·kernel_rfl
   simp only[List.map_cons,List.map_nil]
   refine OpGives.val (w':=W) ?_ ⟨NewMem.refl _,rfl⟩
   go_simp
   try with_reducible rfl
  case s3=>
   intro g W hSW hd
   try simp only[Nat.zero_add,Nat.reduceAdd]at hd ⊢
   have h2:g 2=_:=hd 2 (by decide) (by kernel_rfl)
   with_reducible refine OpGives.pre_reads [(41,2)] 49 ?_ ?_ ?_
   ·rfl
   ·kernel_rfl
   simp only[List.map_cons,List.map_nil]
   have c2:=(HS3.out.new hSW).c2;refine OpGives.val (w':=W) ?_ ⟨NewMem.refl _,rfl⟩;go_simp
  case s4=>
   intro g W hSW hd
   try simp only[Nat.zero_add,Nat.reduceAdd]at hd ⊢
   with_reducible refine OpGives.pre_reads [] 49 ?_ ?_ ?_
   ·rfl
   ·kernel_rfl
   simp only[List.map_cons,List.map_nil]
   refine OpGives.val (w':=W) ?_ ⟨NewMem.refl _,rfl⟩
   go_simp
   try with_reducible rfl
  case s5=>
   intro g W hSW hd
   try simp only[Nat.zero_add,Nat.reduceAdd]at hd ⊢
   with_reducible refine OpGives.pre_reads [] 49 ?_ ?_ ?_
   ·rfl
   ·kernel_rfl
   simp only[List.map_cons,List.map_nil]
   refine OpGives.val (w':=W) ?_ ⟨NewMem.refl _,rfl⟩
   go_simp
   try with_reducible rfl
  case s6=>
   intro g W hSW hd
   try simp only[Nat.zero_add,Nat.reduceAdd]at hd ⊢
   have h5:g 5=_:=hd 5 (by decide) (by kernel_rfl)
   with_reducible refine OpGives.pre_reads [(44,5)] 49 ?_ ?_ ?_
   ·rfl
   ·kernel_rfl
   simp only[List.map_cons,List.map_nil]
   refine OpGives.val (w':=W) ?_ ⟨NewMem.refl _,rfl⟩
   go_simp
   try with_reducible rfl
  case s7=>
   intro g W hSW hd
   try simp only[Nat.zero_add,Nat.reduceAdd]at hd ⊢
   have h6:g 6=_:=hd 6 (by decide) (by kernel_rfl)
   with_reducible refine OpGives.pre_reads [(45,6)] 49 ?_ ?_ ?_
   ·rfl
   ·kernel_rfl
   simp only[List.map_cons,List.map_nil]
   refine OpGives.val (w':=W) ?_ ⟨NewMem.refl _,rfl⟩
   go_simp
   try with_reducible rfl
  case s8=>
   intro g W hSW hd
   try simp only[Nat.zero_add,Nat.reduceAdd]at hd ⊢
   have h7:g 7=_:=hd 7 (by decide) (by kernel_rfl)
   with_reducible refine OpGives.pre_reads [(46,7)] 49 ?_ ?_ ?_
   ·rfl
   ·kernel_rfl
   simp only[List.map_cons,List.map_nil]
   have c1:=(HS3.out.new hSW).c1;refine OpGives.val (w':=W) ?_ ⟨NewMem.refl _,rfl⟩;go_simp
  case s9=>
   intro g W hSW hd
   try simp only[Nat.zero_add,Nat.reduceAdd]at hd ⊢
   have h8:g 8=_:=hd 8 (by decide) (by kernel_rfl)
   with_reducible refine OpGives.pre_reads [(47,8)] 49 ?_ ?_ ?_
   ·rfl
   ·kernel_rfl
   simp only[List.map_cons,List.map_nil]
   refine OpGives.val (w':=W) ?_ ⟨NewMem.refl _,rfl⟩
   go_simp
   try with_reducible rfl
  case hS=>exact fun a c h k=>NewMem.trans h k
  case h0=>exact bdN' (n:=1) (Below.refl _ _)
  case fin=>
   intro u W' hSW hf
   have h3:u 3=_:=hf 3 (Nat.lt_of_lt_of_eq (by decide:3 < 10) rfl)
   have h4:u 4=_:=hf 4 (Nat.lt_of_lt_of_eq (by decide:4 < 10) rfl)
   have h9:u 9=_:=hf 9 (Nat.lt_of_lt_of_eq (by decide:9 < 10) rfl)
   clear hf
   generalize hF:Ord.pre _ _ u _=F
   rw[Ord.pre_lit [some 39,some 40,some 41,some 42,some 43,some 44,some 45,some 46,some 47,some 48]
    (by kernel_rfl)]at hF
   simp only[Ord.puts,Nat.zero_add,Nat.reduceAdd]at hF
   subst hF
   rw[h3,h4,h9]
   have hS4:=HS3.out.new hSW
   obtain⟨W5,hr5,hM5,hm5⟩:=hS4.map.update (by unfold maxLen;have:=HOK.out;show S.ups < _;omega) (s:=id) (by unfold maxLen;omega) (m:=S.things.length+1) (by have:=HOK.out;omega)
   rw[show((S.things.length+1:Nat):Int)=(S.things.length:Int)+1 by omega]at hr5
   have hS5:=hS4.updated hm5 (hM5.congr (g:=place (S.things ++ [(id,b)])) (fun x=>by
    rw[place_append,place_one]
    have hp:=HP.out
    by_cases e:x=id
    ·subst e;rw[if_pos rfl,hp,if_pos rfl,if_pos rfl];simp
    ·rw[if_neg e]
     by_cases hx:place S.things x=0
     ·rw[if_pos hx,if_neg (show ¬ id=x from fun h=>e h.symm),if_pos rfl,hx]
     ·rw[if_neg hx]))
   have hfin:Sep B w W5 (shelfT sb tb pb (.slice (some ⟨g,0,none⟩) (S.things.length+1) cc) ⟨S.things ++ [(id,b)],S.sure,S.ups+1⟩ :: l):=by
    refine H.out.turn ((HM3.out.trans (Mod.of_below hSW:Mod (fun _=>False) W3 W') (fun _ e=>e.elim)).trans hm5 (fun i e=> .inl (.inr (.inl e)))) hS5 (fun k hk=>?_)
    rcases hk with e | e | e
    ·exact .inl (.inl e)
    ·exact .inl (.inr (.inl e))
    ·have hg:=HAT.out
     simp only[Value.ownBlock,Option.some.injEq]at e
     subst e
     rcases hg with e | e
     ·exact .inl (.inr (.inr e))
     ·exact .inr e
   have HFIN:=Lib.hid hfin
   clear hfin hS5 hM5 hm5 hS4 h3 h4 h9
   refine any_one (i:=10) (by kernel_rfl) (wpOp_skip (w':=W5) rfl rfl (by go_simp) ?_)
   refine wpAny_done (by kernel_rfl) ?_ _
   simp only[List.getElem_toArray,List.getElem_cons_succ,List.getElem_cons_zero]
   go_frame
   go_wp2_with fail
   go_ret
   exact⟨_,rfl,HFIN.out⟩
 | some b'=>
  obtain⟨hp,hx⟩:=SS.bytes_some hb
  obtain⟨q,hq⟩:∃ q,place S.things id=q+1:=⟨place S.things id - 1,by omega⟩
  have hle:=place_le S.things id
  rw[hq]at hlk hx hle
  rw[Nat.add_sub_cancel]at hx
  obtain⟨g,rfl,_,hc⟩:=hS.thing hx
  have hw1:wrap64 (q:Int)=(q:Int):=by unfold wrap64;omega
  have hgt:(0:Int) < (q:Int)+1:=by omega
  rw[show((q+1:Nat):Int)=(q:Int)+1 by omega]at hlk
  have hb1:0≤(q:Int)∧(q:Int) < (S.things.length:Int):=by omega
  simp only at hc
  generalize S.things.length=n at *
  clear h hS hp hx hle hlen hu hb ok hq
  show Calls _ _ _ W (Placed B w l sb tb pb (if b'=b then (0,S)else (22,S)))
  by_cases e:b'=b
  ·subst e
   rw[if_pos rfl]
   go_enter Tryz.func55,Tryz.ntmps55
   go_wp2_with fail
   go_ret
   exact⟨_,rfl,H.out⟩
  ·have hne:(b'.toList == b.toList)=false:=by
    rw[beq_eq_false_iff_ne];intro x
    rw[Lib.toList_data,Lib.toList_data]at x
    exact e (str_ext x)
   rw[if_neg e]
   go_enter Tryz.func55,Tryz.ntmps55
   go_wp2_with fail
   go_ret
   exact⟨_,rfl,H.out⟩
end
end Go.Proofs.YtlmabbigfdbmbaaGreatDoor.Shelf
namespace Go.Proofs.YtlmabbigfdbmbaaGreatDoor.Obj
open Go
def gb(s:ByteArray)(i:Nat):Nat:=(s.get! i).toNat
def contB(s:ByteArray)(i:Nat):Bool:=decide (i < s.size) && gb s i / 64 == 2
def okC(c least:Nat):Bool:=!(decide (c < least) || (decide (55296≤c) && decide (c < 57344)) || decide (1114111 < c))
def widthN(s:ByteArray)(i:Nat):Nat:=
 if s.size≤i then 0
 else if gb s i < 128 then 1
 else if 192≤gb s i∧gb s i < 224 then (if contB s (i+1) && okC ((gb s i - 192) * 64+gb s (i+1) % 64) 128 then 2 else 0)
 else if 224≤gb s i∧gb s i < 240 then (if contB s (i+1) && contB s (i+2) && okC ((gb s i - 224) * 4096+gb s (i+1) % 64 * 64+gb s (i+2) % 64) 2048 then 3 else 0)
 else if 240≤gb s i∧gb s i < 248 then (if contB s (i+1) && contB s (i+2) && contB s (i+3) && okC ((gb s i - 240) * 262144+gb s (i+1) % 64 * 4096+gb s (i+2) % 64 * 64+gb s (i+3) % 64) 65536 then 4 else 0)
 else 0
theorem gb_lt(s:ByteArray)(i:Nat):gb s i < 256:=(s.get! i).toNat_lt
theorem okC_valid(c least:Nat):okC c least=(decide (least≤c) && Utf8.valid (c:Int)):=by
 unfold okC Utf8.valid
 rw[Bool.eq_iff_iff]
 simp only[Bool.not_eq_true',Bool.or_eq_false_iff,Bool.and_eq_false_iff,Bool.and_eq_true,Bool.or_eq_true,decide_eq_true_eq,decide_eq_false_iff_not]
 omega
theorem width_decode(s:ByteArray)(i:Nat)(hi:i < s.size) :
  (widthN s i=0∧Utf8.decode s i=(65533,1))∨(0 < widthN s i∧(Utf8.decode s i).2=widthN s i∧((Utf8.decode s i).1=65533→2≤widthN s i)):=by
 have hb:=gb_lt s i
 have h1:=gb_lt s (i+1)
 have h2:=gb_lt s (i+2)
 have h3:=gb_lt s (i+3)
 unfold widthN Utf8.decode
 rw[if_neg (by omega)]
 simp only[Utf8.runeError]
 have e0:(s.get! (i+0)).toNat=gb s i:=rfl
 have e1:(s.get! (i+1)).toNat=gb s (i+1):=rfl
 have e2:(s.get! (i+2)).toNat=gb s (i+2):=rfl
 have e3:(s.get! (i+3)).toNat=gb s (i+3):=rfl
 simp only[e0,e1,e2,e3]
 have d1:(decide (i+1 < s.size) && gb s (i+1) / 64 == 2)=contB s (i+1):=rfl
 have d2:(decide (i+2 < s.size) && gb s (i+2) / 64 == 2)=contB s (i+2):=rfl
 have d3:(decide (i+3 < s.size) && gb s (i+3) / 64 == 2)=contB s (i+3):=rfl
 simp only[d1,d2,d3]
 generalize gb s (i+1)=g1 at *
 generalize gb s (i+2)=g2 at *
 generalize gb s (i+3)=g3 at *
 generalize gb s i=g at *
 generalize contB s (i+1)=k1 at *
 generalize contB s (i+2)=k2 at *
 generalize contB s (i+3)=k3 at *
 clear e0 e1 e2 e3 d1 d2 d3 hi
 by_cases a1:g < 128
 ·rw[if_pos a1,if_pos (show g < 0x80 from a1)]
  exact .inr ⟨by decide,rfl,fun h=>by have:g=65533:=h;omega⟩
 rw[if_neg a1,if_neg (show ¬ g < 0x80 from a1)]
 by_cases a2:192≤g∧g < 224
 ·have q:(g / 32 == 6)=true:=by rw[beq_iff_eq];omega
  have m:g % 32=g - 192:=by omega
  have r3:(g / 16 == 14)=false:=by rw[beq_eq_false_iff_ne];omega
  have r4:(g / 8 == 30)=false:=by rw[beq_eq_false_iff_ne];omega
  rw[if_pos a2,q,m,Bool.true_and,okC_valid,r3,r4]
  simp only[Bool.false_and,Bool.false_eq_true,if_false]
  cases k1 with
  | false=>exact .inl ⟨rfl,rfl⟩
  | true=>
   simp only[Bool.true_and,if_true]
   by_cases c:0x80≤(g - 192) * 64+g1 % 64
   ·have v:Utf8.valid (((g - 192) * 64+g1 % 64:Nat):Int)=true:=by
     unfold Utf8.valid
     simp only[Bool.or_eq_true,Bool.and_eq_true,decide_eq_true_eq]
     omega
    rw[v,decide_eq_true (show 128≤(g - 192) * 64+g1 % 64 from c),if_pos c]
    exact .inr ⟨by decide,rfl,fun _=>by decide⟩
   ·rw[decide_eq_false (show ¬ 128≤(g - 192) * 64+g1 % 64 from c),if_neg c]
    exact .inl ⟨rfl,rfl⟩
 have q2:(g / 32 == 6)=false:=by rw[beq_eq_false_iff_ne];omega
 rw[if_neg a2,q2]
 simp only[Bool.false_and,Bool.false_eq_true,if_false]
 by_cases a3:224≤g∧g < 240
 ·have q:(g / 16 == 14)=true:=by rw[beq_iff_eq];omega
  have m:g % 16=g - 224:=by omega
  have r4:(g / 8 == 30)=false:=by rw[beq_eq_false_iff_ne];omega
  rw[if_pos a3,q,m,Bool.true_and,okC_valid,r4]
  simp only[Bool.false_and,Bool.false_eq_true,if_false]
  cases k1 with
  | false=>exact .inl ⟨rfl,rfl⟩
  | true=>
   cases k2 with
   | false=>exact .inl ⟨rfl,rfl⟩
   | true=>
    simp only[Bool.true_and,if_true]
    generalize (g - 224) * 4096+g1 % 64 * 64+g2 % 64=c at *
    by_cases h:(decide (2048≤c) && Utf8.valid (c:Int))=true
    ·rw[if_pos h,if_pos (by simpa [ge_iff_le] using h)]
     exact .inr ⟨by decide,rfl,fun _=>by decide⟩
    ·rw[if_neg h,if_neg (by simpa [ge_iff_le] using h)]
     exact .inl ⟨rfl,rfl⟩
 have q3:(g / 16 == 14)=false:=by rw[beq_eq_false_iff_ne];omega
 rw[if_neg a3,q3]
 simp only[Bool.false_and,Bool.false_eq_true,if_false]
 by_cases a4:240≤g∧g < 248
 ·have q:(g / 8 == 30)=true:=by rw[beq_iff_eq];omega
  have m:g % 8=g - 240:=by omega
  rw[if_pos a4,q,m,Bool.true_and,okC_valid]
  cases k1 with
  | false=>exact .inl ⟨rfl,rfl⟩
  | true=>
   cases k2 with
   | false=>exact .inl ⟨rfl,rfl⟩
   | true=>
    cases k3 with
    | false=>exact .inl ⟨rfl,rfl⟩
    | true=>
     simp only[Bool.true_and,if_true]
     generalize (g - 240) * 262144+g1 % 64 * 4096+g2 % 64 * 64+g3 % 64=c at *
     by_cases h:(decide (65536≤c) && Utf8.valid (c:Int))=true
     ·rw[if_pos h,if_pos (by simpa [ge_iff_le] using h)]
      exact .inr ⟨by decide,rfl,fun _=>by decide⟩
     ·rw[if_neg h,if_neg (by simpa [ge_iff_le] using h)]
      exact .inl ⟨rfl,rfl⟩
 have q4:(g / 8 == 30)=false:=by rw[beq_eq_false_iff_ne];omega
 rw[if_neg a4,q4]
 simp
end Go.Proofs.YtlmabbigfdbmbaaGreatDoor.Obj
namespace Go.Proofs.YtlmabbigfdbmbaaGreatDoor.Obj
open Go.RowKit Go.Proofs.YtlmabbigfdbmbaaGreatDoor.Ord
structure ModV(b:Nat)(w w':World):Prop where
 os:w'.os=w.os
 tape:w'.tape=w.tape
 output:w'.output=w.output
 size:w.heap.size≤w'.heap.size
 block:∀ k,k < w.heap.size→k≠b→w'.heap[k]? = w.heap[k]?
theorem ModV.trans{b:Nat}{w w1 w2:World}(h:ModV b w w1)(k:ModV b w1 w2):ModV b w w2:=
 ⟨k.os.trans h.os,k.tape.trans h.tape,k.output.trans h.output,Nat.le_trans h.size k.size,fun i hi hb=>(k.block i (Nat.lt_of_lt_of_le hi h.size) hb).trans (h.block i hi hb)⟩
theorem ModV.of_below{b:Nat}{w w':World}(h:Below w.heap.size w w'):ModV b w w':=⟨h.os,h.tape,h.output,h.size,fun k hk _=>h.block k hk⟩
theorem ModV.below{b B:Nat}{w w':World}(h:ModV b w w')(hB:B≤w.heap.size)(hb:B≤b):Below B w w':=⟨h.os,h.tape,h.output,h.size,fun k hk=>h.block k (by omega) (by omega)⟩
theorem ModV.setCell(b:Nat)(w:World)(j:Nat)(v:Value):ModV b w (w.setCell ⟨b,j,none⟩ v):=
 ⟨rfl,rfl,rfl,by simp[World.setCell],fun k _ hb=>Below.heap_setCell _ _ _ _ hb⟩
def runesF(s:ByteArray):Nat→Nat→Option Nat
 | 0,i=>if s.size≤i then some 0 else none
 | f+1,i=>if s.size≤i then some 0 else if widthN s i=0 then none else (runesF s f (i+widthN s i)).map (· + 1)
def runesN(s:ByteArray):Option Nat:=runesF s s.size 0
theorem runesF_end{s:ByteArray}{f i:Nat}(h:s.size≤i):runesF s f i=some 0:=by
 cases f<;>simp[runesF,h]
theorem runesF_bad{s:ByteArray}{f i:Nat}(h:i < s.size)(hf:s.size≤i+f)(hw:widthN s i=0):runesF s f i=none:=by
 cases f with
 | zero=>omega
 | succ f=>rw[runesF,if_neg (by omega),if_pos hw]
theorem runesF_step{s:ByteArray}{f i:Nat}(h:i < s.size)(hf:s.size≤i+f)(hw:0 < widthN s i):∃ f',f=f'+1∧s.size≤(i+widthN s i)+f'∧runesF s f i=(runesF s f' (i+widthN s i)).map (· + 1):=by
 cases f with
 | zero=>omega
 | succ f=>exact⟨f,rfl,by omega,by rw[runesF,if_neg (by omega),if_neg (by omega)]⟩
theorem alloc_lastV(w:World)(o:Obj):(w.alloc o).heap[w.heap.size]? = some o:=by show(w.heap.push o)[w.heap.size]? = _;exact Array.getElem?_push_size
def badP(v:Int):List PanicEntry:=[{ v:=.iface 330 (.agg #[.int .i64 v]),recovered:=false }]
def BoxV(B:Nat)(n:Int)(w:World):Prop:=w.heap[B]? = some (.cells #[.int .i64 n] 3 (0,0))
theorem BoxV.kept{b:Nat}{n:Int}{w w':World}(h:BoxV b n w)(hb:Below w.heap.size w w'):BoxV b n w':=
 (hb.block b (Array.getElem?_eq_some_iff.1 h).1).trans h
set_option maxHeartbeats 4000000 in
set_option maxRecDepth 100000 in
theorem count_calls(B:Nat)(n:Nat)(p r:Int)(w:World)(h:BoxV B n w)(hn:n < 1000000) :
  Calls Tryz.prog 223 #[.int .i64 p,.int .i32 r,.pointer (some ⟨B,0,none⟩)] w fun e w'=>e = .returned (.tuple #[])∧BoxV B ((n+1:Nat):Int) w'∧ModV B w w':=by
 have c0:w.cell? ⟨B,0,none⟩=some (.int .i64 (n:Int)):=by rw[Lib.cell_of_heap h];rfl
 have f0:w.frozen? ⟨B,0,none⟩=false:=Lib.frozen_of_heap h 0
 have hfin:BoxV B ((n+1:Nat):Int) (w.setCell ⟨B,0,none⟩ (.int .i64 ((n:Int)+1))):=by
  unfold BoxV;rw[heap_setCell_same _ _ _ _ _ _ h];simp
 have H:=Lib.hid hfin
 clear h hfin
 go_enter Tryz.func223,Tryz.ntmps223
 go_wp2
 exact⟨rfl,_,results_none rfl _ _ _,rfl,H.out,ModV.setCell _ _ _ _⟩
def EachPost(s:ByteArray)(B n:Nat)(w0:World)(e:Ending)(w':World):Prop:=
 match runesN s with
 | some k=>e = .returned (.tuple #[])∧BoxV B ((n+k:Nat):Int) w'∧ModV B w0 w'
 | none=>(∃ p,e = .panicked (badP p))∧ModV B w0 w'
theorem tail_gb(s:ByteArray)(p j:Nat):(s.extract p s.size).get! j=s.get! (p+j):=Lib.tail_get! s p j
theorem decode_tail(s:ByteArray)(p:Nat)(hp:p < s.size):Lib.decodeGo (s.extract p s.size)=Utf8.decode s p:=by
 have hz:(s.extract p s.size).size=s.size - p:=by simp
 unfold Lib.decodeGo
 rw[if_neg (by omega),Lib.decode_at,Lib.decode_at s p,hz,tail_gb,tail_gb,tail_gb,tail_gb]
 simp
theorem width_one{s:ByteArray}{p:Nat}(hp:p < s.size)(h:(Utf8.decode s p).1=65533):((Utf8.decode s p).2 < 2↔widthN s p=0):=by
 rcases width_decode s p hp with ⟨h0,h1⟩ | ⟨h0,h1,h2⟩
 ·rw[h1];simp[h0]
 ·have:=h2 h;rw[h1];omega
theorem width_any{s:ByteArray}{p:Nat}(hp:p < s.size)(h:widthN s p≠0):(Utf8.decode s p).2=widthN s p:=by
 rcases width_decode s p hp with ⟨h0,h1⟩ | ⟨h0,h1,h2⟩
 ·exact absurd h0 h
 ·exact h1
theorem width_err{s:ByteArray}{p:Nat}(hp:p < s.size)(h:(Utf8.decode s p).1≠65533):widthN s p≠0:=by
 rcases width_decode s p hp with ⟨h0,h1⟩ | ⟨h0,h1,h2⟩
 ·rw[h1]at h;exact absurd rfl h
 ·omega
theorem ModV.iter{B:Nat}{w wr:World}(h:ModV B w wr){k:Nat}(hk:w.heap.size≤k)(s:ByteArray)(p:Nat):ModV B w (wr.iterAt k s p):=
 ⟨h.os,h.tape,h.output,by rw[Lib.iterAt_size];exact h.size,fun i hi hb=>(Lib.iterAt_other wr k i s p (by omega)).trans (h.block i hi hb)⟩
theorem iterPos_of{wr:World}{k:Nat}{s:ByteArray}{p:Nat}(h:wr.heap[k]? = some (.stringIter s p)):wr.iterPos k=p:=by
 simp only[World.iterPos,h]
set_option maxHeartbeats 8000000 in
set_option maxRecDepth 100000 in
theorem each_calls(s:ByteArray)(B:Nat)(w w0:World)(hT:Lib.Utf8Tabs 1 2 w0)(h0:Below w0.heap.size w0 w)(hB0:w0.heap.size≤B)(h:BoxV B ((0:Nat):Int) w)(hs:s.size < 100000) :
  Calls Tryz.prog 229 #[.string s,.func (.func 223) #[] #[.pointer (some ⟨B,0,none⟩)]] w (EachPost s B 0 w):=by
 have hBw:B < w.heap.size:=(Array.getElem?_eq_some_iff.1 h).1
 have hdec:∀ W,ModV B w W→∀ p,p < s.size→Calls Tryz.prog 225 #[.string (s.extract p s.size)] W fun e w'=>e = .returned (.tuple #[.int .i32 ((Utf8.decode s p).1:Nat),.int .i64 ((Utf8.decode s p).2:Nat)])∧Below W.heap.size W w':=fun W hW p hp=>by
  have h1:Below w0.heap.size w0 W:=h0.trans (hW.below (Nat.le_trans (Nat.le_of_lt (Nat.lt_of_le_of_lt hB0 hBw)) (Nat.le_refl _)) hB0)
  have:=Tryz.utf8_DecodeRuneInString (s.extract p s.size) W (Utf8Tabs_below hT h1)
  rwa [decode_tail s p hp]at this
 have hcount:∀ W (n:Nat) (p r:Int),BoxV B n W→n < 1000000→Calls Tryz.prog 223 #[.int .i64 p,.int .i32 r,.pointer (some ⟨B,0,none⟩)] W fun e w'=>e = .returned (.tuple #[])∧BoxV B ((n+1:Nat):Int) w'∧ModV B W w':=fun W n p r h h'=>count_calls B n p r W h h'
 have HD:=Lib.hid hdec
 have HC:=Lib.hid hcount
 clear hdec hcount
 go_enter Tryz.func229,Tryz.ntmps229
 go_wp2
 go_loopw [] (fun wr=>∃ (pos fuel n:Nat),wr.heap[w.heap.size]? = some (.stringIter s pos)∧BoxV B (n:Int) wr∧ModV B w wr∧s.size≤pos+fuel∧(runesF s fuel pos).map (n + ·)=runesN s∧n≤pos) (fun wr=>s.size - wr.iterPos w.heap.size)
 case atStart=>
  have hn:Below w.heap.size w (w.iter s 0):=(Below.refl _ _).alloc (Nat.le_refl _) _
  refine⟨0,s.size,0,?_,h.kept hn,ModV.of_below hn,by omega,by unfold runesN;simp,by omega⟩
  exact World.iter_heap w s 0
 case round=>
  obtain⟨pos,fuel,n,hit,hbx,hm,hfu,hrn,hnp⟩:=hrel
  have hsz:w.heap.size < wr.heap.size:=(Array.getElem?_eq_some_iff.1 hit).1
  by_cases hp:pos < s.size
  ·have hnx:∀ ty,(Instr.next (.pointer (some ⟨w.heap.size,0,none⟩)) true ty).run Tryz.prog wr=_:=fun ty=>Lib.run_next_any_at wr w.heap.size s pos ty hit hp
   have hm2:=hm.iter (k:=w.heap.size) (Nat.le_refl _) s (pos+(Utf8.decode s pos).2)
   have hbx2:BoxV B (n:Int) (wr.iterAt w.heap.size s (pos+(Utf8.decode s pos).2)):=(Lib.iterAt_other wr w.heap.size B s _ (by omega)).trans hbx
   have hit2:=Lib.iterAt_heap wr w.heap.size s pos (pos+(Utf8.decode s pos).2) hit
   obtain⟨W1,hW1⟩:∃ W1,W1=wr.iterAt w.heap.size s (pos+(Utf8.decode s pos).2):=⟨_,rfl⟩
   rw[← hW1]at hnx hm2 hbx2 hit2
   have HW1:=Lib.hid hW1
   clear hW1
   have hpi:(0:Int)≤(pos:Int)∧(pos:Int)≤(s.size:Int):=by omega
   by_cases h32:(Utf8.decode s pos).1=65533
   ·have h32':((Utf8.decode s pos).1:Int)=65533:=by rw[h32];rfl
    have hlt2:=width_one hp h32
    have HD1:=Lib.hid (HD.out W1 hm2 pos hp)
    go_wp2_with fail
    refine HD1.out.mono ?_
    rintro e W2 ⟨rfl,hb2⟩
    have hm3:=hm2.trans (ModV.of_below hb2)
    have hbx3:=hbx2.kept hb2
    have hit3:W2.heap[w.heap.size]? = some (.stringIter s (pos+(Utf8.decode s pos).2)):=(hb2.block _ (Array.getElem?_eq_some_iff.1 hit2).1).trans hit2
    by_cases hlt:(Utf8.decode s pos).2 < 2
    ·have hlt':((Utf8.decode s pos).2:Int) < 2:=by omega
     have hrn':=runesF_bad hp hfu (hlt2.1 hlt)
     rw[hrn']at hrn
     go_wp2_with fail
     exact⟨rfl,by unfold EachPost;rw[← hrn];exact⟨⟨_,rfl⟩,hm3⟩⟩
    ·have hlt':¬ ((Utf8.decode s pos).2:Int) < 2:=by omega
     have hwd:widthN s pos≠0:=fun h=>hlt (hlt2.2 h)
     have hd2:=width_any hp hwd
     obtain⟨f',hf',hle',hst⟩:=runesF_step hp hfu (Nat.pos_of_ne_zero hwd)
     have HC1:=Lib.hid (HC.out W2 n pos 65533 hbx3 (by omega))
     have HF:=Lib.hid (And.intro hd2 (And.intro hle' hst))
     clear hd2 hst hle'
     go_wp2_with fail
     refine HC1.out.mono ?_
     rintro e W3 ⟨rfl,hbx4,hm4⟩
     go_wp2_with fail
     go_roundw
     case rel=>exact⟨pos+(Utf8.decode s pos).2,f',n+1,(hm4.block _ (Array.getElem?_eq_some_iff.1 hit3).1 (by omega)).trans hit3,hbx4,hm3.trans hm4,by rw[HF.out.1];exact HF.out.2.1,by rw[HF.out.1,← hrn,HF.out.2.2,Option.map_map];congr 1;funext x;simp;omega,by rw[HF.out.1];omega⟩
     case measure=>
      rw[iterPos_of ((hm4.block _ (Array.getElem?_eq_some_iff.1 hit3).1 (by omega)).trans hit3),iterPos_of hit,HF.out.1]
      omega
   ·have h32':¬ ((Utf8.decode s pos).1:Int)=65533:=by omega
    have hwd:=width_err hp h32
    have hd2:=width_any hp hwd
    obtain⟨f',hf',hle',hst⟩:=runesF_step hp hfu (Nat.pos_of_ne_zero hwd)
    have HC1:=Lib.hid (HC.out W1 n pos (Utf8.decode s pos).1 hbx2 (by omega))
    have HF:=Lib.hid (And.intro hd2 (And.intro hle' hst))
    clear hd2 hst hle'
    go_wp2_with fail
    refine HC1.out.mono ?_
    rintro e W3 ⟨rfl,hbx4,hm4⟩
    go_wp2_with fail
    go_roundw
    case rel=>exact⟨pos+(Utf8.decode s pos).2,f',n+1,(hm4.block _ (Array.getElem?_eq_some_iff.1 hit2).1 (by omega)).trans hit2,hbx4,hm2.trans hm4,by rw[HF.out.1];exact HF.out.2.1,by rw[HF.out.1,← hrn,HF.out.2.2,Option.map_map];congr 1;funext x;simp;omega,by rw[HF.out.1];omega⟩
    case measure=>
     rw[iterPos_of ((hm4.block _ (Array.getElem?_eq_some_iff.1 hit2).1 (by omega)).trans hit2),iterPos_of hit,HF.out.1]
     omega
  ·have hnx:∀ ty,(Instr.next (.pointer (some ⟨w.heap.size,0,none⟩)) true ty).run Tryz.prog wr=_:=fun ty=>Lib.run_next_end_at wr w.heap.size s pos ty hit hp
   go_wp2_with fail
   refine bodyPost_ret (results_none rfl _ _ _) rfl ?_
   unfold EachPost
   rw[← hrn,runesF_end (by omega)]
   exact⟨rfl,by simpa using hbx,hm⟩
def OkV(c:Nat)(b:Bool)(w:World):Prop:=w.heap[c]? = some (.cells #[.bool b] 4 (0,0))
theorem as_bad(v:Value)(W:World):(Instr.typeAssert (.iface 330 v) 20 330 true).run Tryz.prog W = .ok (.tuple #[v,.bool true]) W:=by kernel_rfl
set_option maxHeartbeats 4000000 in
set_option maxRecDepth 100000 in
theorem catch_idle(v0:Value)(w:World) :
  CallsD Tryz.prog 228 #[v0] .returning w fun e u' w'=>e = .returned (.tuple #[])∧u' = .returning∧w'=w:=by
 refine callsD_of_wpS Tryz.func228 rfl fun c₀ cs hu=>?_
 apply wpS_seq
 apply wpS_region
 simp[wpOpsS,go_sem,recoverD,hu,Tryz.ntmps228,Exit.thenS]
 rw[show(#[v0]++((Array.replicate 9 undef).setIfInBounds 1 Value.nilIface).setIfInBounds 0 Value.nilIface)=#[v0,.nilIface,.nilIface,undef,undef,undef,undef,undef,undef,undef]from rfl]
 refine wpS_of_wp ?_
 go_wp2
 cases c₀
 simp_all [bodyPostS,results,Tryz.results228]
set_option maxHeartbeats 4000000 in
set_option maxRecDepth 100000 in
theorem catch_bad(c:Nat)(p:Int)(older:List PanicEntry)(b:Bool)(w:World)(hc:OkV c b w) :
  CallsD Tryz.prog 228 #[.pointer (some ⟨c,0,none⟩)] (.panicking ({ v:=.iface 330 (.agg #[.int .i64 p]),recovered:=false } :: older)) w fun e u' w'=>
   e = .returned (.tuple #[])∧u' = .panicking ({ v:=.iface 330 (.agg #[.int .i64 p]),recovered:=true } :: older)∧OkV c false w'∧ModV c w w':=by
 have q1:=as_bad
 refine callsD_of_wpS Tryz.func228 rfl fun c₀ cs hu=>?_
 apply wpS_seq
 apply wpS_region
 simp[wpOpsS,go_sem,recoverD,hu,Tryz.ntmps228,Exit.thenS]
 rw[show ∀ (v0 v:Value),(#[v0]++((Array.replicate 9 undef).setIfInBounds 1 v).setIfInBounds 0 v)=#[v0,v,v,undef,undef,undef,undef,undef,undef,undef]from fun _ _=>rfl]
 refine wpS_of_wp ?_
 have c0:w.cell? ⟨c,0,none⟩=some (.bool b):=by rw[Lib.cell_of_heap hc];rfl
 have f0:w.frozen? ⟨c,0,none⟩=false:=Lib.frozen_of_heap hc 0
 obtain⟨W1,hW1⟩:∃ W1,W1=w.setCell ⟨c,0,none⟩ (.bool true):=⟨_,rfl⟩
 have h1:OkV c true W1:=by unfold OkV;rw[hW1,heap_setCell_same _ _ _ _ _ _ hc];simp
 have c1:W1.cell? ⟨c,0,none⟩=some (.bool true):=by rw[Lib.cell_of_heap h1];rfl
 have f1:W1.frozen? ⟨c,0,none⟩=false:=Lib.frozen_of_heap h1 0
 have h2:OkV c false (W1.setCell ⟨c,0,none⟩ (.bool false)):=by unfold OkV;rw[heap_setCell_same _ _ _ _ _ _ h1];simp
 have hm:ModV c w (W1.setCell ⟨c,0,none⟩ (.bool false)):=by rw[hW1];exact(ModV.setCell c w 0 _).trans (ModV.setCell c _ 0 _)
 rw[hW1]at c1 f1 h2 hm
 have H2:=Lib.hid h2
 have HM:=Lib.hid hm
 clear hc hW1 h1 h2 hm
 go_wp2
 exact⟨rfl,_,rfl,_,results_none rfl _ _ _,rfl,rfl,H2.out,HM.out⟩
theorem results_through(tmps:Array Value)(w:World)(c:Nat)(b:Bool)(h:tmps.getD 4 undef = .pointer (some ⟨c,0,none⟩))(hc:OkV c b w) :
  (results Tryz.f222 tmps).run Tryz.prog w = .ok (.bool b) w:=by
 have h':tmps[4]?.getD undef = .pointer (some ⟨c,0,none⟩):=by simpa using h
 have k0:w.cell? ⟨c,0,none⟩=some (.bool b):=by rw[Lib.cell_of_heap hc];rfl
 simp[results,Tryz.results222,h',asAddr,k0,go_sem]
def ThroughPost(s:ByteArray)(B:Nat)(w:World)(e:Ending)(w':World):Prop:=
 e = .returned (.bool (runesN s).isSome)∧ModV B w w'∧∀ k,runesN s=some k→BoxV B (k:Int) w'
set_option maxHeartbeats 8000000 in
set_option maxRecDepth 100000 in
theorem through_calls(s:ByteArray)(B:Nat)(w w0:World)(hT:Lib.Utf8Tabs 1 2 w0)(h0:Below w0.heap.size w0 w)(hB0:w0.heap.size≤B)(h:BoxV B ((0:Nat):Int) w)(hs:s.size < 100000) :
  Calls Tryz.prog 222 #[.string s,.func (.func 223) #[] #[.pointer (some ⟨B,0,none⟩)]] w (ThroughPost s B w):=by
 have hmf:∀ (fn:Fn) (first cap:Array Value) (w:World),(Instr.makeFunc fn first cap).run Tryz.prog w = .ok (.func fn first cap) w:=fun _ _ _ _=>rfl
 obtain⟨W1,hW1⟩:∃ W1,W1=w.alloc (.cells #[.bool false] 4):=⟨_,rfl⟩
 have hn1:Below w.heap.size w W1:=by rw[hW1];exact(Below.refl _ _).alloc (Nat.le_refl _) _
 have ho1:OkV w.heap.size false W1:=by rw[hW1];exact alloc_lastV _ _
 have hBw:B < w.heap.size:=(Array.getElem?_eq_some_iff.1 h).1
 have hsz1:w.heap.size < W1.heap.size:=(Array.getElem?_eq_some_iff.1 ho1).1
 have HE:=Lib.hid (each_calls s B W1 w0 hT (h0.trans (hn1.mono (Nat.le_of_lt (Nat.lt_of_le_of_lt hB0 hBw)))) hB0 (h.kept hn1) hs)
 have HW1:=Lib.hid hW1
 have HN1:=Lib.hid hn1
 have HO1:=Lib.hid ho1
 clear hW1 hn1 ho1 h
 go_enter_defers Tryz.func222,Tryz.ntmps222
 go_wp2_with fail
 rw[← HW1.out]
 refine HE.out.mono ?_
 intro e W2 hp
 unfold EachPost at hp
 cases hr:runesN s with
 | none=>
  rw[hr]at hp
  obtain⟨⟨p,rfl⟩,hm⟩:=hp
  have ho2:OkV w.heap.size false W2:=(hm.block _ hsz1 (by omega)).trans HO1.out
  refine leaves_cons (f:=228) (args:=#[.pointer (some ⟨w.heap.size,0,none⟩)]) (by simp) (by simp[go_sem]) ?_
  refine(catch_bad _ p [] false W2 ho2).mono ?_
  rintro e u' w'' ⟨rfl,rfl,ho3,hm3⟩
  refine⟨_,results_through _ w'' _ _ rfl ho3,by rw[hr];rfl,?_,fun k hk=>by rw[hr]at hk;cases hk⟩
  exact⟨(hm3.os.trans hm.os).trans HN1.out.os,(hm3.tape.trans hm.tape).trans HN1.out.tape,(hm3.output.trans hm.output).trans HN1.out.output,Nat.le_trans HN1.out.size (Nat.le_trans hm.size hm3.size),fun k hk hkb=>((hm3.block k (by have:=hm.size;omega) (by omega)).trans (hm.block k (by omega) hkb)).trans (HN1.out.block k hk)⟩
 | some k=>
  rw[hr]at hp
  obtain⟨rfl,hbx,hm⟩:=hp
  have ho2:OkV w.heap.size false W2:=(hm.block _ hsz1 (by omega)).trans HO1.out
  have c0:W2.cell? ⟨w.heap.size,0,none⟩=some (.bool false):=by rw[Lib.cell_of_heap ho2];rfl
  have f0:W2.frozen? ⟨w.heap.size,0,none⟩=false:=Lib.frozen_of_heap ho2 0
  obtain⟨W3,hW3⟩:∃ W3,W3=W2.setCell ⟨w.heap.size,0,none⟩ (.bool true):=⟨_,rfl⟩
  have ho3:OkV w.heap.size true W3:=by unfold OkV;rw[hW3,heap_setCell_same _ _ _ _ _ _ ho2];simp
  have hm3:ModV w.heap.size W2 W3:=by rw[hW3];exact ModV.setCell _ _ _ _
  have hbx3:BoxV B (k:Int) W3:=(hm3.block _ (Array.getElem?_eq_some_iff.1 hbx).1 (by omega)).trans (by rw[show(0+k)=k by omega]at hbx;exact hbx)
  have hmf:ModV B w W3:=⟨(hm3.os.trans hm.os).trans HN1.out.os,(hm3.tape.trans hm.tape).trans HN1.out.tape,(hm3.output.trans hm.output).trans HN1.out.output,Nat.le_trans HN1.out.size (Nat.le_trans hm.size hm3.size),fun k hk hkb=>((hm3.block k (by have:=hm.size;omega) (by omega)).trans (hm.block k (by omega) hkb)).trans (HN1.out.block k hk)⟩
  have HW3:=Lib.hid hW3
  have HO3:=Lib.hid ho3
  have HM:=Lib.hid (And.intro hmf hbx3)
  clear hW3 ho3 hm3 hbx3 hmf hbx hm ho2
  go_wp2_with fail
  rw[← HW3.out]
  refine leaves_cons (f:=228) (args:=#[.pointer (some ⟨w.heap.size,0,none⟩)]) (by simp) (by simp[go_sem]) ?_
  refine(catch_idle _ W3).mono ?_
  rintro e u' w'' ⟨rfl,rfl,rfl⟩
  refine⟨_,results_through _ _ _ _ rfl HO3.out,by rw[hr];rfl,HM.out.1,fun j hj=>by rw[hr]at hj;cases hj;exact HM.out.2⟩
def runesV(s:ByteArray):Int:=match runesN s with | some k=>(k:Int) | none=>-1
set_option maxHeartbeats 8000000 in
set_option maxRecDepth 100000 in
theorem runes_calls(s:ByteArray)(w:World)(hT:Lib.Utf8Tabs 1 2 w)(hs:s.size < 100000) :
  Calls Tryz.prog 211 #[.string s] w fun e w'=>e = .returned (.int .i64 (runesV s))∧Below w.heap.size w w':=by
 have hmf:∀ (fn:Fn) (first cap:Array Value) (w:World),(Instr.makeFunc fn first cap).run Tryz.prog w = .ok (.func fn first cap) w:=fun _ _ _ _=>rfl
 obtain⟨W1,hW1⟩:∃ W1,W1=w.alloc (.cells #[.int .i64 0] 3):=⟨_,rfl⟩
 have hn1:Below w.heap.size w W1:=by rw[hW1];exact(Below.refl _ _).alloc (Nat.le_refl _) _
 have hb1:BoxV w.heap.size ((0:Nat):Int) W1:=by rw[hW1];exact alloc_lastV _ _
 have hth:=through_calls s w.heap.size W1 w hT hn1 (Nat.le_refl _) hb1 hs
 unfold ThroughPost at hth
 unfold runesV
 generalize runesN s=rn at hth
 have HT:=Lib.hid hth
 clear hth
 have HW1:=Lib.hid hW1
 have HN1:=Lib.hid hn1
 clear hW1 hn1 hb1
 go_enter Tryz.func211,Tryz.ntmps211
 go_wp2_with fail
 try rw[← HW1.out]
 refine HT.out.mono ?_
 rintro e W2 ⟨rfl,hm,hbx⟩
 have hfin:Below w.heap.size w W2:=HN1.out.trans (hm.below HN1.out.size (Nat.le_refl _))
 have HF:=Lib.hid hfin
 clear hfin
 cases rn with
 | none=>
  clear hbx
  go_wp2_with fail
  go_ret
  exact⟨rfl,HF.out⟩
 | some k=>
  have hbx2:=hbx k rfl
  have c0:W2.cell? ⟨w.heap.size,0,none⟩=some (.int .i64 (k:Int)):=by rw[Lib.cell_of_heap hbx2];rfl
  clear hbx hbx2
  go_wp2_with fail
  go_ret
  exact⟨rfl,HF.out⟩
end Go.Proofs.YtlmabbigfdbmbaaGreatDoor.Obj
namespace Go.Proofs.YtlmabbigfdbmbaaGreatDoor.PShelfNil
open Go.RowKit Go.Proofs.YtlmabbigfdbmbaaGreatDoor.Ord Go.Proofs.YtlmabbigfdbmbaaGreatDoor.Obj Go.Proofs.YtlmabbigfdbmbaaGreatDoorW.PrintWords Go.Proofs.YtlmabbigfdbmbaaGreatDoorW.PrintLast Go.Proofs.YtlmabbigfdbmbaaGreatDoorW.PrintMore
attribute [local irreducible] OpGives
def okV(v:S172):Bool:=if v.f0=1 then decide (v.f2.size=0)else if v.f0=2 then decide (v.f1=0) && (decide (v.f2.size≤40) && (runesN v.f2).isSome)else false
set_option maxHeartbeats 8000000 in
set_option maxRecDepth 100000 in
theorem vcheck_calls(k n:Int)(s:ByteArray)(w:World)(hT:Lib.Utf8Tabs 1 2 w) :
  Calls Tryz.prog 202 #[.agg #[.int .i64 k,.int .i64 n,.string s]] w fun e w'=>e = .returned (.int .i64 (if okV ⟨k,n,s⟩then 0 else 2))∧Below w.heap.size w w':=by
 obtain⟨W1,hW1⟩:∃ W1,W1=w.alloc (.cells #[.int .i64 k,.int .i64 n,.string s] 172):=⟨_,rfl⟩
 have hn1:Below w.heap.size w W1:=by rw[hW1];exact(Below.refl _ _).alloc (Nat.le_refl _) _
 have hg1:W1.heap[w.heap.size]? = some (.cells #[.int .i64 k,.int .i64 n,.string s] 172 (0,0)):=by rw[hW1];exact alloc_lastV _ _
 have c0:W1.cell? ⟨w.heap.size,0,none⟩=some (.int .i64 k):=by rw[Lib.cell_of_heap hg1];rfl
 have c1:W1.cell? ⟨w.heap.size,1,none⟩=some (.int .i64 n):=by rw[Lib.cell_of_heap hg1];rfl
 have c2:W1.cell? ⟨w.heap.size,2,none⟩=some (.string s):=by rw[Lib.cell_of_heap hg1];rfl
 have HW1:=Lib.hid hW1
 have HN1:=Lib.hid hn1
 have hR:=fun(h:s.size≤40)=>runes_calls s W1 (Utf8Tabs_below hT hn1) (by omega)
 have HR:=Lib.hid hR
 rw[hW1]at c0 c1 c2
 clear hW1 hn1 hg1 hR
 unfold okV
 have etl:s.size≠0→(s.toList == ([]:List UInt8))=false:=fun h=>by
  rw[beq_eq_false_iff_ne];intro e;exact h (by rw[Lib.size_eq,← Lib.toList_data,e];rfl)
 by_cases hk1:k=1
 ·subst hk1
  have e1:((1:Int) == 1)=true:=rfl
  simp only[if_true]
  by_cases hs:s.size=0
  ·obtain rfl:s=⟨#[]⟩:=by
    rcases s with ⟨⟨l⟩⟩
    have:l.length=0:=hs
    rw[List.eq_nil_of_length_eq_zero this]
   clear etl HR
   go_enter Tryz.func202,Tryz.ntmps202
   go_wp2_with fail
   rw[← HW1.out]
   go_ret
   exact⟨rfl,HN1.out⟩
  ·have hs':=etl hs
   have ed:decide (s.size=0)=false:=decide_eq_false hs
   clear etl HR
   go_enter Tryz.func202,Tryz.ntmps202
   go_wp2_with fail
   all_goals (rw[← HW1.out];go_ret;exact⟨rfl,HN1.out⟩)
 ·have e1:(k == 1)=false:=by simpa using hk1
  rw[if_neg hk1]
  by_cases hk2:k=2
  ·subst hk2
   simp only[if_true]
   have e2:((2:Int) == 2)=true:=rfl
   by_cases hn:n=0
   ·subst hn
    by_cases hs:s.size≤40
    ·have hs':(s.size:Int)≤40:=by omega
     have HR2:=Lib.hid (HR.out hs)
     have hrv:(0≤runesV s)=((runesN s).isSome=true):=by
      unfold runesV
      cases runesN s with
      | none=>simp
      | some k=>simp
     have hd:decide (s.size≤40)=true:=decide_eq_true hs
     clear etl HR
     rw[hd]
     generalize runesV s=rv at hrv HR2
     generalize (runesN s).isSome=ro at hrv
     have HRV:=Lib.hid hrv
     clear hrv hd
     go_enter Tryz.func202,Tryz.ntmps202
     go_wp2_with fail
     rw[← HW1.out]
     refine HR2.out.mono ?_
     rintro e W2 ⟨rfl,hb2⟩
     have HF:=Lib.hid (HN1.out.trans (hb2.mono HN1.out.size))
     clear hb2
     by_cases h0:0≤rv
     ·have hro:ro=true:=by have:=HRV.out;exact this▸h0
      subst hro
      go_wp2_with fail
      go_ret
      exact⟨rfl,HF.out⟩
     ·have hro:ro=false:=by
       have:=HRV.out
       cases ro
       ·rfl
       ·exact absurd (this.symm▸rfl) h0
      subst hro
      go_wp2_with fail
      go_ret
      exact⟨rfl,HF.out⟩
    ·have hs':¬ (s.size:Int)≤40:=by omega
     have ed:decide (s.size≤40)=false:=decide_eq_false hs
     clear etl HR
     go_enter Tryz.func202,Tryz.ntmps202
     go_wp2_with fail
     all_goals (rw[← HW1.out];go_ret;exact⟨rfl,HN1.out⟩)
   ·have ed:decide (n=0)=false:=decide_eq_false hn
    have en:(n == 0)=false:=by simpa using hn
    clear etl HR
    go_enter Tryz.func202,Tryz.ntmps202
    go_wp2_with fail
    all_goals (rw[← HW1.out];go_ret;exact⟨rfl,HN1.out⟩)
  ·have e2:(k == 2)=false:=by simpa using hk2
   rw[if_neg hk2]
   clear etl HR
   go_enter Tryz.func202,Tryz.ntmps202
   go_wp2_with fail
   all_goals (rw[← HW1.out];go_ret;exact⟨rfl,HN1.out⟩)
end Go.Proofs.YtlmabbigfdbmbaaGreatDoor.PShelfNil
namespace Go.Proofs.YtlmabbigfdbmbaaGreatDoor.PShelfNil
open Go.RowKit Go.Proofs.YtlmabbigfdbmbaaGreatDoor.Ord Go.Proofs.YtlmabbigfdbmbaaGreatDoor.Obj Go.Proofs.YtlmabbigfdbmbaaGreatDoorW.PrintWords Go.Proofs.YtlmabbigfdbmbaaGreatDoorW.PrintLast Go.Proofs.YtlmabbigfdbmbaaGreatDoorW.PrintMore
attribute [local irreducible] OpGives
def isS(a b:Int):Bool:=decide (0≤a) && (decide (a < b) && decide (b≤1099511627776))
def sameV(x y:S172):Bool:=x.f0 == y.f0 && (x.f1 == y.f1 && (x.f2.toList == y.f2.toList))
def nextOk(p:Option S174)(x:S174):Bool:=match p with
 | none=>true
 | some q=>!(decide (x.f0 < q.f1) || (x.f0 == q.f1 && sameV x.f2 q.f2))
theorem nextOk_some(q x:S174):nextOk (some q) x = !(decide (x.f0 < q.f1) || (x.f0 == q.f1 && sameV x.f2 q.f2)):=rfl
def rowsFrom:Option S174→List S174→Bool
 | _,[]=>true
 | p,x :: xs=>(isS x.f0 x.f1 && okV x.f2) && (nextOk p x && rowsFrom (some x) xs)
def okRows(l:List S174):Bool:=decide (l.length≤64) && rowsFrom none l
def prevOf(l:List S174)(i:Nat):Option S174:=if i=0 then none else l[i - 1]?
theorem rowsFrom_step{l:List S174}{i:Nat}{x:S174}(h:l[i]? = some x):rowsFrom (prevOf l i) (l.drop i)=((isS x.f0 x.f1 && okV x.f2) && (nextOk (prevOf l i) x && rowsFrom (prevOf l (i+1)) (l.drop (i+1)))):=by
 obtain⟨hi,hx⟩:=List.getElem?_eq_some_iff.1 h
 rw[List.drop_eq_getElem_cons hi,rowsFrom,hx]
 unfold prevOf
 rw[if_neg (by omega:¬ i+1=0),show i+1 - 1=i from rfl,h]
theorem rowsFrom_end(l:List S174)(p:Option S174):rowsFrom p (l.drop l.length)=true:=by rw[List.drop_length];cases p<;>rfl
set_option maxRecDepth 100000 in
theorem is_calls(a b:Int)(w:World):Calls Tryz.prog 201 #[.int .i64 a,.int .i64 b] w fun e w'=>e = .returned (.bool (isS a b))∧w'=w:=by
 unfold isS
 by_cases h0:0≤a
 ·by_cases h1:a < b
  ·by_cases h2:b≤1099511627776
   ·rw[decide_eq_true h0,decide_eq_true h1,decide_eq_true h2]
    go_enter Tryz.func201,Tryz.ntmps201
    go_wp2
    go_ret
    exact⟨rfl,rfl⟩
   ·rw[decide_eq_true h0,decide_eq_true h1,decide_eq_false h2]
    go_enter Tryz.func201,Tryz.ntmps201
    go_wp2
    go_ret
    exact⟨rfl,rfl⟩
  ·rw[decide_eq_true h0,decide_eq_false h1]
   go_enter Tryz.func201,Tryz.ntmps201
   go_wp2
   go_ret
   exact⟨rfl,rfl⟩
 ·rw[decide_eq_false h0]
  go_enter Tryz.func201,Tryz.ntmps201
  go_wp2
  go_ret
  exact⟨rfl,rfl⟩
theorem eqV_run(d:Nat)(w:World)(x0 y0:Int)(x1 y1:Int)(x2 y2:ByteArray) :
  (Op.equalIn (d+2) 172 (.agg #[.int .i64 x0,.int .i64 x1,.string x2]) (.agg #[.int .i64 y0,.int .i64 y1,.string y2])).run Tryz.prog w = .ok (x0 == y0 && (x1 == y1 && (x2.toList == y2.toList))) w:=by
 refine eqA_of Tryz.underlying172 (by kernel_rfl) ?_
 refine eqf_cons (by rfl) (by go_simp;rfl) (by go_simp;rfl) (by go_simp) ?_
 refine eqf_cons (by rfl) (by go_simp;rfl) (by go_simp;rfl) (by go_simp) ?_
 exact eqf_last (by rfl) (by go_simp;rfl) (by go_simp;rfl) (by go_simp)
theorem box5{W:World}{g:Nat}{a b c d e:Value}(h:W.heap[g]? = some (.cells #[a,b,c,d,e] 174 (0,0))) :
  W.cell? ⟨g,0,none⟩=some a∧W.cell? ⟨g,1,none⟩=some b∧W.cell? ⟨g,2,none⟩=some c∧W.cell? ⟨g,3,none⟩=some d∧W.cell? ⟨g,4,none⟩=some e:=by
 refine⟨?_,?_,?_,?_,?_⟩<;>(rw[Lib.cell_of_heap h];rfl)
attribute [local go_sem high] eqV_run
theorem row_at{w:World}{A:Option Addr}{l:List S174}{i:Nat}{x:S174}(h:Kd.C k174 w A l.length l)(hx:l[i]? = some x) :
  ∃ ad,A=some ad∧w.cell? (ad.add (i * 5))=some (.int .i64 x.f0)∧w.cell? ⟨(ad.add (i * 5)).block,(ad.add (i * 5)).off+1,none⟩=some (.int .i64 x.f1)∧w.cell? ⟨(ad.add (i * 5)).block,(ad.add (i * 5)).off+2,none⟩=some (.int .i64 x.f2.f0)∧w.cell? ⟨(ad.add (i * 5)).block,(ad.add (i * 5)).off+3,none⟩=some (.int .i64 x.f2.f1)∧w.cell? ⟨(ad.add (i * 5)).block,(ad.add (i * 5)).off+4,none⟩=some (.string x.f2.f2)∧(ad.add (i * 5)).block < w.heap.size:=by
 have hi:i < l.length:=(List.getElem?_eq_some_iff.1 hx).1
 obtain⟨ad,e,c0,c1,c2,c3,c4⟩:=at_T174 h (i:Int) (by omega) (by omega)
 have hrd:rd_T174 l (i:Int)=x:=by unfold rd_T174;rw[Int.toNat_natCast,List.getD_eq_getElem?_getD,hx];rfl
 rw[hrd]at c0 c1 c2 c3 c4
 rw[Int.toNat_natCast]at c0 c1 c2 c3 c4
 exact⟨ad,e,c0,c1,c2,c3,c4,block_lt_of_cell c0⟩
set_option maxHeartbeats 8000000 in
set_option maxRecDepth 100000 in
theorem scheck_calls(l:List S174)(A:Option Addr)(c:Nat)(w:World)(hA:Kd.C k174 w A l.length l)(hc:l.length≤c)(hT:Lib.Utf8Tabs 1 2 w) :
  Calls Tryz.prog 186 #[.slice A l.length c] w fun e w'=>e = .returned (.int .i64 (if okRows l then 0 else 2))∧Below w.heap.size w w':=by
 have HA:=Lib.hid hA
 have HT:=Lib.hid hT
 clear hA hT
 unfold okRows
 by_cases hl:l.length≤64
 ·have hl':¬ (64:Int) < (l.length:Int):=by omega
  rw[decide_eq_true hl,Bool.true_and]
  obtain⟨R,hR⟩:∃ R,R=rowsFrom none l:=⟨_,rfl⟩
  rw[← hR]
  have hrel0:R=rowsFrom (prevOf l 0) (l.drop 0):=hR
  obtain⟨RV,hRV⟩:∃ RV:Int,RV=if R then 0 else 2:=⟨_,rfl⟩
  rw[← hRV]
  have HRV:=Lib.hid hRV
  clear hRV
  have HR:=Lib.hid hrel0
  clear hR hrel0
  go_enter Tryz.func186,Tryz.ntmps186
  go_wp2_with fail
  go_loopw [11] (fun v wr=>∃ i:Nat,v = .int .i64 (i:Int)∧i≤l.length∧Hid (R=rowsFrom (prevOf l i) (l.drop i))∧Below w.heap.size w wr) (fun v _=>l.length - (intOf v).toNat)
  case atStart=>exact⟨0,rfl,Nat.zero_le _,HR,Below.refl _ _⟩
  case round=>
   obtain⟨i,rfl,hi,hr,hbe⟩:=hrel
   have HBE:=Lib.hid hbe
   clear hbe
   by_cases hil:i < l.length
   ·obtain⟨x,hx⟩:∃ x,l[i]? = some x:=⟨_,List.getElem?_eq_getElem hil⟩
    obtain⟨ad,rfl,c0,c1,c2,c3,c4,hbk⟩:=row_at (Kd.C_below HA.out HBE.out) hx
    have hst:=rowsFrom_step hx
    have hr2:=hr.out
    rw[hst]at hr2
    have HR2:=Lib.hid hr2
    have HX:=Lib.hid hx
    clear hst hr2 hr hx
    go_wp2_with fail
    obtain⟨W1,hW1⟩:∃ W1,W1=wr.alloc (.cells #[.int .i64 x.f0,.int .i64 x.f1,.int .i64 x.f2.f0,.int .i64 x.f2.f1,.string x.f2.f2] 174):=⟨_,rfl⟩
    rw[← hW1]
    have hn1:Below wr.heap.size wr W1:=by rw[hW1];exact(Below.refl _ _).alloc (Nat.le_refl _) _
    have hg1:W1.heap[wr.heap.size]? = some (.cells #[.int .i64 x.f0,.int .i64 x.f1,.int .i64 x.f2.f0,.int .i64 x.f2.f1,.string x.f2.f2] 174 (0,0)):=by rw[hW1];exact alloc_lastV _ _
    have hb1:Below w.heap.size w W1:=HBE.out.trans (hn1.mono HBE.out.size)
    have HB1:=Lib.hid hb1
    have HG1:=Lib.hid hg1
    have hv:=vcheck_calls x.f2.f0 x.f2.f1 x.f2.f2 W1 (Utf8Tabs_below HT.out hb1)
    obtain⟨d0,d1,d2,d3,d4⟩:=box5 hg1
    have HV:=Lib.hid hv
    clear hW1 hn1 hg1 hb1 hv c0 c1 c2 c3 c4 hbk
    refine(is_calls x.f0 x.f1 W1).mono ?_
    rintro e W2 ⟨rfl,rfl⟩
    cases hIs:isS x.f0 x.f1 with
    | false=>
     have hR2:=HR2.out
     rw[hIs,Bool.false_and,Bool.false_and]at hR2
     have HR3:=Lib.hid hR2
     clear hR2
     go_wp2_with fail
     go_ret
     exact⟨by rw[HRV.out,HR3.out];rfl,HB1.out⟩
    | true=>
     have hR2:=HR2.out
     rw[hIs,Bool.true_and]at hR2
     have HR3:=Lib.hid hR2
     clear hR2 hIs
     go_wp2_with fail
     refine HV.out.mono ?_
     rintro e W3 ⟨rfl,hb3⟩
     have hB3:Below w.heap.size w W3:=HB1.out.trans (hb3.mono HB1.out.size)
     have hg3:=(hb3.block _ (Array.getElem?_eq_some_iff.1 HG1.out).1).trans HG1.out
     have HB3:=Lib.hid hB3
     have HG3:=Lib.hid hg3
     clear d0 d1 d2 d3 d4 hb3
     obtain⟨d0,d1,d2,d3,d4⟩:=box5 hg3
     clear hg3 hB3
     cases hOk:okV ⟨x.f2.f0,x.f2.f1,x.f2.f2⟩with
     | false=>
      have hR3:=HR3.out
      rw[show okV x.f2=false from hOk,Bool.false_and]at hR3
      have HR4:=Lib.hid hR3
      clear hR3
      go_wp2_with fail
      go_ret
      exact⟨by rw[HRV.out,HR4.out];rfl,HB3.out⟩
     | true=>
      have hR3:=HR3.out
      rw[show okV x.f2=true from hOk,Bool.true_and]at hR3
      have HR4:=Lib.hid hR3
      clear hR3 hOk
      rcases Nat.eq_zero_or_pos i with hi0 | hi0
      ·subst hi0
       go_wp2_with fail
       go_roundw
       case rel=>exact⟨1,rfl,hil,Lib.hid HR4.out,HB3.out⟩
       case measure=>simp[intOf];omega
      ·obtain⟨k,rfl⟩:∃ k,i=k+1:=⟨i - 1,by omega⟩
       obtain⟨q,hq⟩:∃ q,l[k]? = some q:=⟨_,List.getElem?_eq_getElem (by omega)⟩
       obtain⟨ad',e',b0,b1,b2,b3,b4,hbk'⟩:=row_at (Kd.C_below HA.out HB3.out) hq
       cases e'
       have hpv:prevOf l (k+1)=some q:=by unfold prevOf;rw[if_neg (by omega),show k+1 - 1=k from rfl,hq]
       have hR4:=HR4.out
       rw[hpv]at hR4
       have HR5:=Lib.hid hR4
       clear hR4 hq hpv
       obtain⟨W4,hW4⟩:∃ W4,W4=W3.alloc (.cells #[.int .i64 q.f0,.int .i64 q.f1,.int .i64 q.f2.f0,.int .i64 q.f2.f1,.string q.f2.f2] 174):=⟨_,rfl⟩
       have hn4:Below W3.heap.size W3 W4:=by rw[hW4];exact(Below.refl _ _).alloc (Nat.le_refl _) _
       have hg4:W4.heap[W3.heap.size]? = some (.cells #[.int .i64 q.f0,.int .i64 q.f1,.int .i64 q.f2.f0,.int .i64 q.f2.f1,.string q.f2.f2] 174 (0,0)):=by rw[hW4];exact alloc_lastV _ _
       have hg5:=(hn4.block _ (Array.getElem?_eq_some_iff.1 HG3.out).1).trans HG3.out
       obtain⟨e0,e1,e2,e3,e4⟩:=box5 hg4
       obtain⟨f0,f1,f2,f3,f4⟩:=box5 hg5
       have HB4:=Lib.hid (HB3.out.trans (hn4.mono HB3.out.size))
       rw[hW4]at e0 e1 e2 e3 e4 f0 f1 f2 f3 f4
       have HW4:=Lib.hid hW4
       clear hW4 hn4 hg4 hg5
       by_cases hlt:x.f0 < q.f1
       ·have hR5:=HR5.out
        rw[show nextOk (some q) x=false from by rw[nextOk_some,decide_eq_true hlt];rfl]at hR5
        have HR6:=Lib.hid hR5
        clear hR5
        go_wp2_with fail
        rw[← HW4.out]
        go_ret
        exact⟨by rw[HRV.out,HR6.out];rfl,HB4.out⟩
       ·by_cases heq:x.f0=q.f1
        ·obtain⟨sv,hsv⟩:∃ sv,sv=(x.f2.f0 == q.f2.f0 && (x.f2.f1 == q.f2.f1 && (x.f2.f2.toList == q.f2.f2.toList))):=⟨_,rfl⟩
         have hR5:=HR5.out
         rw[show nextOk (some q) x = !sv from by rw[nextOk_some,decide_eq_false hlt,heq,hsv];simp[sameV]]at hR5
         have HR6:=Lib.hid hR5
         have heqb:(x.f0 == q.f1)=true:=by simpa using heq
         clear hR5 heq
         cases sv with
         | true=>
          have hsv':=hsv.symm
          clear hsv
          go_wp2_with fail
          rw[← HW4.out]
          go_ret
          exact⟨by rw[HRV.out,HR6.out];rfl,HB4.out⟩
         | false=>
          have hsv':=hsv.symm
          clear hsv
          have hR6:=HR6.out
          rw[Bool.not_false,Bool.true_and]at hR6
          have HR7:=Lib.hid hR6
          clear hR6
          go_wp2_with fail
          rw[← HW4.out]
          go_roundw
          case rel=>exact⟨k+1+1,by go_num,hil,Lib.hid HR7.out,HB4.out⟩
          case measure=>simp[intOf];omega
        ·have hR5:=HR5.out
         have heqb:(x.f0 == q.f1)=false:=by simpa using heq
         rw[show nextOk (some q) x=true from by rw[nextOk_some,decide_eq_false hlt,heqb];rfl,Bool.true_and]at hR5
         have HR6:=Lib.hid hR5
         clear hR5
         go_wp2_with fail
         rw[← HW4.out]
         go_roundw
         case rel=>exact⟨k+1+1,by go_num,hil,Lib.hid HR6.out,HB4.out⟩
         case measure=>simp[intOf];omega
   ·have hie:i=l.length:=by omega
    have hR2:=hr.out
    rw[hie,rowsFrom_end]at hR2
    have HR3:=Lib.hid hR2
    clear hR2 hr hie
    go_wp2_with fail
    go_ret
    exact⟨by rw[HRV.out,HR3.out];rfl,HBE.out⟩
 ·have hl':(64:Int) < (l.length:Int):=by omega
  rw[decide_eq_false hl]
  go_enter Tryz.func186,Tryz.ntmps186
  go_wp2_with fail
  go_ret
  exact⟨rfl,Below.refl _ _⟩
end Go.Proofs.YtlmabbigfdbmbaaGreatDoor.PShelfNil
namespace Go.Proofs.YtlmabbigfdbmbaaGreatDoor.PShelfNil
open Go.RowKit Go.Proofs.YtlmabbigfdbmbaaGreatDoor.Ord Go.Proofs.YtlmabbigfdbmbaaGreatDoor.Obj Go.Proofs.YtlmabbigfdbmbaaGreatDoorW.PrintWords Go.Proofs.YtlmabbigfdbmbaaGreatDoorW.PrintLast Go.Proofs.YtlmabbigfdbmbaaGreatDoorW.PrintMore
attribute [local irreducible] OpGives
structure Ob where
 kind:Int
 label:ByteArray
 rows:List S174
 kids:List S115
 parents:List ByteArray
 stamp:Int
 note:ByteArray
 root:ByteArray
def obV(o:Ob)(Ar:Option Addr)(cr:Nat)(Ak:Option Addr)(ck:Nat)(Ap:Option Addr)(cp:Nat):Array Value:=
 #[.int .i64 o.kind,.string o.label,.slice Ar o.rows.length cr,.slice Ak o.kids.length ck,.slice Ap o.parents.length cp,.int .i64 o.stamp,.string o.note,.string o.root]
structure ObAt(w:World)(o:Ob)(Ar:Option Addr)(cr:Nat)(Ak:Option Addr)(ck:Nat)(Ap:Option Addr)(cp:Nat):Prop where
 r:Kd.C k174 w Ar o.rows.length o.rows
 lr:o.rows.length≤cr
 k:Kd.C k115 w Ak o.kids.length o.kids
 lk:o.kids.length≤ck
 p:Kd.C Kd.string w Ap o.parents.length o.parents
 lp:o.parents.length≤cp
theorem ObAt.below{w w':World}{o:Ob}{Ar:Option Addr}{cr:Nat}{Ak:Option Addr}{ck:Nat}{Ap:Option Addr}{cp:Nat}(h:ObAt w o Ar cr Ak ck Ap cp)(hb:Below w.heap.size w w'):ObAt w' o Ar cr Ak ck Ap cp:=
 ⟨Kd.C_below h.r hb,h.lr,Kd.C_below h.k hb,h.lk,Kd.C_below h.p hb,h.lp⟩
def kidNext(p:Option S115)(x:S115):Bool:=match p with | none=>true | some q=>decide (q.f0 < x.f0)
def kidsFrom:Option S115→List S115→Bool
 | _,[]=>true
 | p,x :: xs=>decide (x.f1.size=32) && (kidNext p x && kidsFrom (some x) xs)
def prevKid(l:List S115)(i:Nat):Option S115:=if i=0 then none else l[i - 1]?
theorem kidsFrom_step{l:List S115}{i:Nat}{x:S115}(h:l[i]? = some x):kidsFrom (prevKid l i) (l.drop i)=(decide (x.f1.size=32) && (kidNext (prevKid l i) x && kidsFrom (prevKid l (i+1)) (l.drop (i+1)))):=by
 obtain⟨hi,hx⟩:=List.getElem?_eq_some_iff.1 h
 rw[List.drop_eq_getElem_cons hi,kidsFrom,hx]
 unfold prevKid
 rw[if_neg (by omega:¬ i+1=0),show i+1 - 1=i from rfl,h]
theorem kidsFrom_end(l:List S115)(p:Option S115):kidsFrom p (l.drop l.length)=true:=by rw[List.drop_length];cases p<;>rfl
def okNode(o:Ob):Bool:=
 decide (o.parents.length=0) && (decide (o.stamp=0) && (decide (o.note.size=0) && (decide (o.root.size=0) && (decide (o.label.size≤24) && (okRows o.rows && kidsFrom none o.kids)))))
theorem box8{W:World}{g:Nat}{t:TypeId}{a b c d e f h i:Value}(hg:W.heap[g]? = some (.cells #[a,b,c,d,e,f,h,i] t (0,0))) :
  (W.cell? ⟨g,0,none⟩=some a∧W.cell? ⟨g,1,none⟩=some b∧W.cell? ⟨g,2,none⟩=some c∧W.cell? ⟨g,3,none⟩=some d)∧W.cell? ⟨g,4,none⟩=some e∧W.cell? ⟨g,5,none⟩=some f∧W.cell? ⟨g,6,none⟩=some h∧W.cell? ⟨g,7,none⟩=some i:=by
 refine⟨⟨?_,?_,?_,?_⟩,?_,?_,?_,?_⟩<;>(rw[Lib.cell_of_heap hg];rfl)
theorem box4{W:World}{g:Nat}{t:TypeId}{a b c d:Value}(hg:W.heap[g]? = some (.cells #[a,b,c,d] t (0,0))):(W.cell? ⟨g,0,none⟩=some a∧W.cell? ⟨g,1,none⟩=some b∧W.cell? ⟨g,2,none⟩=some c∧W.cell? ⟨g,3,none⟩=some d)∧W.frozen? ⟨g,0,none⟩=false∧W.frozen? ⟨g,1,none⟩=false∧W.frozen? ⟨g,2,none⟩=false∧W.frozen? ⟨g,3,none⟩=false:=by
 refine⟨⟨?_,?_,?_,?_⟩,Lib.frozen_of_heap hg 0,Lib.frozen_of_heap hg 1,Lib.frozen_of_heap hg 2,Lib.frozen_of_heap hg 3⟩<;>(rw[Lib.cell_of_heap hg];rfl)
theorem box2{W:World}{g:Nat}{t:TypeId}{a b:Value}(hg:W.heap[g]? = some (.cells #[a,b] t (0,0))):W.cell? ⟨g,0,none⟩=some a∧W.cell? ⟨g,1,none⟩=some b:=by
 refine⟨?_,?_⟩<;>(rw[Lib.cell_of_heap hg];rfl)
theorem empty_str{s:ByteArray}(h:s.size=0):s=⟨#[]⟩:=by
 rcases s with ⟨⟨l⟩⟩
 have:l.length=0:=h
 rw[List.eq_nil_of_length_eq_zero this]
theorem full_str{s:ByteArray}(h:s.size≠0):(s.toList == ([]:List UInt8))=false:=by
 rw[beq_eq_false_iff_ne];intro e;exact h (by rw[Lib.size_eq,← Lib.toList_data,e];rfl)
theorem kid_at{w:World}{A:Option Addr}{l:List S115}{i:Nat}{x:S115}(h:Kd.C k115 w A l.length l)(hx:l[i]? = some x) :
  ∃ ad,A=some ad∧w.cell? (ad.add (i * 2))=some (.int .u8 x.f0)∧w.cell? ⟨(ad.add (i * 2)).block,(ad.add (i * 2)).off+1,none⟩=some (.string x.f1)∧(ad.add (i * 2)).block < w.heap.size:=by
 have hi:i < l.length:=(List.getElem?_eq_some_iff.1 hx).1
 obtain⟨ad,e,c0,c1⟩:=at_T115 h (i:Int) (by omega) (by omega)
 have hrd:rd_T115 l (i:Int)=x:=by unfold rd_T115;rw[Int.toNat_natCast,List.getD_eq_getElem?_getD,hx];rfl
 rw[hrd]at c0 c1
 rw[Int.toNat_natCast]at c0 c1
 exact⟨ad,e,c0,c1,block_lt_of_cell c0⟩
set_option maxHeartbeats 8000000 in
set_option maxRecDepth 100000 in
theorem nright_calls(o:Ob)(Ar:Option Addr)(cr:Nat)(Ak:Option Addr)(ck:Nat)(Ap:Option Addr)(cp:Nat)(w:World)(hO:ObAt w o Ar cr Ak ck Ap cp)(hT:Lib.Utf8Tabs 1 2 w) :
  Calls Tryz.prog 256 #[.agg (obV o Ar cr Ak ck Ap cp)] w fun e w'=>e = .returned (.bool (okNode o))∧Below w.heap.size w w':=by
 obtain⟨RV,hRV⟩:∃ RV,RV=okNode o:=⟨_,rfl⟩
 rw[← hRV]
 obtain⟨knd,lab,rws,kds,prs,stp,nte,rot⟩:=o
 unfold okNode at hRV
 unfold obV
 simp only at hRV hO ⊢
 have hOr:=hO.r
 have hOlr:=hO.lr
 have hOk:=hO.k
 clear hO
 simp only at hOr hOlr hOk
 generalize prs.length=pl at hRV ⊢
 obtain⟨W1,hW1⟩:∃ W1,W1=w.alloc (.cells #[.int .i64 knd,.string lab,.slice Ar rws.length cr,.slice Ak kds.length ck,.slice Ap pl cp,.int .i64 stp,.string nte,.string rot] 197):=⟨_,rfl⟩
 have hn1:Below w.heap.size w W1:=by rw[hW1];exact(Below.refl _ _).alloc (Nat.le_refl _) _
 have hg1:W1.heap[w.heap.size]? = some (.cells #[.int .i64 knd,.string lab,.slice Ar rws.length cr,.slice Ak kds.length ck,.slice Ap pl cp,.int .i64 stp,.string nte,.string rot] 197 (0,0)):=by rw[hW1];exact alloc_lastV _ _
 obtain⟨⟨b0,b1,b2,b3⟩,b4,b5,b6,b7⟩:=box8 hg1
 have hS:=scheck_calls rws Ar cr W1 (Kd.C_below hOr hn1) hOlr (Utf8Tabs_below hT hn1)
 have HS:=Lib.hid hS
 have HK:=Lib.hid (Kd.C_below hOk hn1)
 have HN1:=Lib.hid hn1
 have HG1:=Lib.hid hg1
 have HRV:=Lib.hid hRV
 rw[hW1]at b0 b1 b2 b3 b4 b5 b6 b7
 have HW1:=Lib.hid hW1
 clear hW1 hn1 hg1 hOr hOlr hOk hT hRV hS
 by_cases h1:pl=0
 ·subst h1
  by_cases h2:stp=0
  ·subst h2
   by_cases h3:nte.size=0
   ·obtain rfl:=empty_str h3
    by_cases h4:rot.size=0
    ·obtain rfl:=empty_str h4
     by_cases h5:lab.size≤24
     ·have h5':¬ (24:Int) < (lab.size:Int):=by omega
      have hRV2:=HRV.out
      rw[decide_eq_true h3,decide_eq_true h5]at hRV2
      simp only[decide_true,Bool.true_and]at hRV2
      have HRV2:=Lib.hid hRV2
      clear hRV2 HRV
      go_enter Tryz.func256,Tryz.ntmps256
      go_wp2_with fail
      rw[← HW1.out]
      clear b0 b1 b2 b3 b4 b5 b6 b7
      refine HS.out.mono ?_
      rintro e W2 ⟨rfl,hb2⟩
      have hg2:=(hb2.block _ (Array.getElem?_eq_some_iff.1 HG1.out).1).trans HG1.out
      have hB2:=HN1.out.trans (hb2.mono HN1.out.size)
      have hK2:=Kd.C_below HK.out hb2
      obtain⟨⟨b0,b1,b2,b3⟩,b4,b5,b6,b7⟩:=box8 hg2
      have HB2:=Lib.hid hB2
      have HG2:=Lib.hid hg2
      have HK2:=Lib.hid hK2
      clear hb2 hg2 hB2 hK2
      cases hrw:okRows rws with
      | false=>
       have hRV3:=HRV2.out
       rw[hrw,Bool.false_and]at hRV3
       have HRV3:=Lib.hid hRV3
       clear hRV3 hrw
       go_wp2_with fail
       go_ret
       exact⟨by rw[HRV3.out];rfl,HB2.out⟩
      | true=>
       have hRV3:=HRV2.out
       rw[hrw,Bool.true_and]at hRV3
       have HRV3:=Lib.hid (show RV=kidsFrom (prevKid kds 0) (kds.drop 0)from hRV3)
       clear hRV3 hrw
       go_wp2_with fail
       clear b0 b1 b2 b3 b4 b5 b6 b7
       go_loopw [41] (fun v wr=>∃ i:Nat,v = .int .i64 (i:Int)∧i≤kds.length∧Hid (RV=kidsFrom (prevKid kds i) (kds.drop i))∧Below W2.heap.size W2 wr) (fun v _=>kds.length - (intOf v).toNat)
       case atStart=>exact⟨0,rfl,Nat.zero_le _,HRV3,Below.refl _ _⟩
       case round=>
        obtain⟨i,rfl,hi,hr,hbe⟩:=hrel
        have hgr:=(hbe.block _ (Array.getElem?_eq_some_iff.1 HG2.out).1).trans HG2.out
        have hkr:=Kd.C_below HK2.out hbe
        have HBE:=Lib.hid (HB2.out.trans (hbe.mono HB2.out.size))
        have HBE2:=Lib.hid hbe
        by_cases hil:i < kds.length
        ·obtain⟨x,hx⟩:∃ x,kds[i]? = some x:=⟨_,List.getElem?_eq_getElem hil⟩
         obtain⟨ad,rfl,c0,c1,hbk⟩:=kid_at hkr hx
         have hst:=kidsFrom_step hx
         have hr2:=hr.out
         rw[hst]at hr2
         have HR2:=Lib.hid hr2
         obtain⟨W3,hW3⟩:∃ W3,W3=wr.alloc (.cells #[.int .u8 x.f0,.string x.f1] 115):=⟨_,rfl⟩
         have hn3:Below wr.heap.size wr W3:=by rw[hW3];exact(Below.refl _ _).alloc (Nat.le_refl _) _
         have hg3:W3.heap[wr.heap.size]? = some (.cells #[.int .u8 x.f0,.string x.f1] 115 (0,0)):=by rw[hW3];exact alloc_lastV _ _
         have hgr3:=(hn3.block _ (Array.getElem?_eq_some_iff.1 hgr).1).trans hgr
         have HB3:=Lib.hid (HBE.out.trans (hn3.mono HBE.out.size))
         have HB32:=Lib.hid (HBE2.out.trans (hn3.mono HBE2.out.size))
         have HK3:=Lib.hid (Kd.C_below hkr hn3)
         obtain⟨e0,e1⟩:=box2 hg3
         have b3:W3.cell? ⟨w.heap.size,3,none⟩=some (.slice (some ad) kds.length ck):=(box8 hgr3).1.2.2.2
         have HW3:=Lib.hid hW3
         clear hst hr2 hr hx hW3 hn3 hg3 hgr3 hgr hkr hbe
         go_wp2_with fail
         rw[← HW3.out]
         clear c0 c1 hbk
         by_cases h32:x.f1.size=32
         ·have h32':((x.f1.size:Int) == 32)=true:=by rw[h32];rfl
          have hR2:=HR2.out
          rw[decide_eq_true h32,Bool.true_and]at hR2
          have HR3:=Lib.hid hR2
          clear hR2
          rcases Nat.eq_zero_or_pos i with hi0 | hi0
          ·subst hi0
           have hR3:=HR3.out
           rw[show kidNext (prevKid kds 0) x=true from rfl,Bool.true_and]at hR3
           have HR4:=Lib.hid hR3
           clear hR3
           go_quiet (fail)
           go_wp2_with fail
           go_roundw
           case rel=>exact⟨1,rfl,hil,Lib.hid HR4.out,pw_below_drewN HB32.out _⟩
           case measure=>simp[intOf];omega
          ·obtain⟨k,rfl⟩:∃ k,i=k+1:=⟨i - 1,by omega⟩
           obtain⟨q,hq⟩:∃ q,kds[k]? = some q:=⟨_,List.getElem?_eq_getElem (by omega)⟩
           obtain⟨ad',e',c0,c1,hbk'⟩:=kid_at HK3.out hq
           cases e'
           have hpv:prevKid kds (k+1)=some q:=by unfold prevKid;rw[if_neg (by omega),show k+1 - 1=k from rfl,hq]
           have hR4:=HR3.out
           rw[hpv,show kidNext (some q) x=decide (q.f0 < x.f0)from rfl]at hR4
           have HR5:=Lib.hid hR4
           clear hR4 hq hpv
           have hgt:decide ((0:Int) < (k:Int)+1)=true:=decide_eq_true (by omega)
           have hlk:(k:Int) < (kds.length:Int):=by omega
           have hmx:=HK3.out.2.1
           have hwk:IntKind.i64.wrap (k:Int)=(k:Int):=by rw[IntKind.wrap_i64];omega
           by_cases hlt:q.f0 < x.f0
           ·have hlt':¬ x.f0≤q.f0:=by omega
            have hR5:=HR5.out
            rw[decide_eq_true hlt,Bool.true_and]at hR5
            have HR6:=Lib.hid hR5
            clear hR5
            go_quiet (fail)
            go_wp2_with fail
            go_roundw
            case rel=>exact⟨k+1+1,by go_num,hil,Lib.hid HR6.out,pw_below_drewN HB32.out _⟩
            case measure=>simp[intOf];omega
           ·have hlt':x.f0≤q.f0:=by omega
            have hR5:=HR5.out
            rw[decide_eq_false hlt,Bool.false_and]at hR5
            have HR6:=Lib.hid hR5
            clear hR5
            go_quiet (fail)
            go_wp2_with fail
            go_ret
            exact⟨by rw[HR6.out];rfl,pw_below_drewN HB3.out _⟩
         ·have h32n:¬ (x.f1.size:Int)=32:=by omega
          have h32':((x.f1.size:Int) != 32)=true:=by simpa using h32n
          have hR2:=HR2.out
          rw[decide_eq_false h32,Bool.false_and]at hR2
          have HR3:=Lib.hid hR2
          clear hR2
          go_quiet (fail)
          go_wp2_with fail
          go_ret
          exact⟨by rw[HR3.out];rfl,pw_below_drewN HB3.out _⟩
        ·have hie:i=kds.length:=by omega
         have hR2:=hr.out
         rw[hie,kidsFrom_end]at hR2
         have HR3:=Lib.hid hR2
         clear hR2 hr hie hbe hgr hkr
         go_wp2_with fail
         go_ret
         exact⟨by rw[HR3.out];rfl,HBE.out⟩
     ·have h5':(24:Int) < (lab.size:Int):=by omega
      go_enter Tryz.func256,Tryz.ntmps256
      go_wp2_with fail
      rw[← HW1.out]
      go_ret
      exact⟨by rw[HRV.out,decide_eq_false h5];simp,HN1.out⟩
    ·have h4':=full_str h4
     go_enter Tryz.func256,Tryz.ntmps256
     go_wp2_with fail
     rw[← HW1.out]
     go_ret
     exact⟨by rw[HRV.out,decide_eq_false h4];simp,HN1.out⟩
   ·have h3':=full_str h3
    go_enter Tryz.func256,Tryz.ntmps256
    go_wp2_with fail
    rw[← HW1.out]
    go_ret
    exact⟨by rw[HRV.out,decide_eq_false h3];simp,HN1.out⟩
  ·have h2':(stp == 0)=false:=by simpa using h2
   go_enter Tryz.func256,Tryz.ntmps256
   go_wp2_with fail
   rw[← HW1.out]
   go_ret
   exact⟨by rw[HRV.out,decide_eq_false h2];simp,HN1.out⟩
 ·have h1':(0:Int) < (pl:Int):=by omega
  go_enter Tryz.func256,Tryz.ntmps256
  go_wp2_with fail
  rw[← HW1.out]
  go_ret
  exact⟨by rw[HRV.out,decide_eq_false h1];rfl,HN1.out⟩
end Go.Proofs.YtlmabbigfdbmbaaGreatDoor.PShelfNil
namespace Go.Proofs.YtlmabbigfdbmbaaGreatDoor.PShelfNil
open Go.RowKit Go.Proofs.YtlmabbigfdbmbaaGreatDoor.Ord Go.Proofs.YtlmabbigfdbmbaaGreatDoor.Obj Go.Proofs.YtlmabbigfdbmbaaGreatDoorW.PrintWords Go.Proofs.YtlmabbigfdbmbaaGreatDoorW.PrintLast Go.Proofs.YtlmabbigfdbmbaaGreatDoorW.PrintMore
attribute [local irreducible] OpGives
theorem str_at{w:World}{A:Option Addr}{l:List ByteArray}{i:Nat}{x:ByteArray}(h:Kd.C Kd.string w A l.length l)(hx:l[i]? = some x) :
  ∃ ad,A=some ad∧w.cell? (ad.add i)=some (.string x)∧(ad.add i).block < w.heap.size:=by
 have hi:i < l.length:=(List.getElem?_eq_some_iff.1 hx).1
 obtain⟨ad,c,e,_,hK,hc0⟩:=Kd.C_get h ByteArray.empty (i:Int) (by omega) (by omega)
 have hrd:l.getD (i:Int).toNat ByteArray.empty=x:=by rw[Int.toNat_natCast,List.getD_eq_getElem?_getD,hx];rfl
 rw[hrd]at hK
 have hk:c = [.string x]:=hK
 subst hk
 have h0:=hc0 0 (.string x) rfl
 rw[Int.toNat_natCast]at h0
 have h1:w.cell? (ad.add i)=some (.string x):=by
  rw[show Kd.string.sz=1 from rfl,Nat.mul_one,Nat.add_zero]at h0
  exact h0
 exact⟨ad,e,h1,block_lt_of_cell h1⟩
def wideB(s:ByteArray):Bool:=!(decide (s.size=32))
set_option maxRecDepth 100000 in
theorem narrow_calls(s:ByteArray)(w:World):Calls Tryz.prog 260 #[.string s] w fun e w'=>e = .returned (.bool (wideB s))∧w'=w:=by
 unfold wideB
 by_cases h:s.size=32
 ·have h':((s.size:Int) != 32)=false:=by rw[h];rfl
  rw[decide_eq_true h]
  go_enter Tryz.func260,Tryz.ntmps260
  go_wp2
  go_ret
  exact⟨rfl,rfl⟩
 ·have h2:¬ (s.size:Int)=32:=by omega
  have h':((s.size:Int) != 32)=true:=by simpa using h2
  rw[decide_eq_false h]
  go_enter Tryz.func260,Tryz.ntmps260
  go_wp2
  go_ret
  exact⟨rfl,rfl⟩
def narrowAt(l:List ByteArray)(i:Nat):Nat→Int
 | 0=>-1
 | f+1=>match l[i]? with | none=>-1 | some s=>if wideB s then (i:Int)else narrowAt l (i+1) f
theorem narrow_ge(l:List ByteArray):∀ (f i:Nat),l.length=i+f→(0≤narrowAt l i f↔(l.drop i).any wideB=true)
 | 0,i,h=>by
  rw[List.drop_of_length_le (by omega)];simp[narrowAt]
 | f+1,i,h=>by
  have hi:i < l.length:=by omega
  rw[narrowAt,List.getElem?_eq_getElem hi,List.drop_eq_getElem_cons hi,List.any_cons]
  by_cases hw:wideB l[i]=true
  ·simp[hw]
  ·have:=narrow_ge l f (i+1) (by omega)
   simp[hw,this]
set_option maxHeartbeats 4000000 in
set_option maxRecDepth 100000 in
theorem index_calls(l:List ByteArray)(A:Option Addr)(c:Nat)(w:World)(hA:Kd.C Kd.string w A l.length l) :
  Calls Tryz.prog 262 #[.slice A l.length c,.func (.func 260) #[] #[]] w fun e w'=>e = .returned (.int .i64 (narrowAt l 0 l.length))∧w'=w:=by
 obtain⟨RV,hRV⟩:∃ RV,RV=narrowAt l 0 l.length:=⟨_,rfl⟩
 rw[← hRV]
 have HRV:=Lib.hid hRV
 have HA:=Lib.hid hA
 have hmx:=hA.2.1
 clear hA hRV
 go_enter Tryz.func262,Tryz.ntmps262
 go_wp2_with fail
 go_loopw [8] (fun v wr=>∃ i:Nat,v = .int .i64 (i:Int)∧i≤l.length∧Hid (RV=narrowAt l i (l.length - i))∧wr=w) (fun v _=>l.length - (intOf v).toNat)
 case atStart=>exact⟨0,rfl,Nat.zero_le _,HRV,rfl⟩
 case round=>
  obtain⟨i,rfl,hi,hr,rfl⟩:=hrel
  by_cases hil:i < l.length
  ·obtain⟨x,hx⟩:∃ x,l[i]? = some x:=⟨_,List.getElem?_eq_getElem hil⟩
   obtain⟨ad,rfl,c0,hbk⟩:=str_at HA.out hx
   have hr2:=hr.out
   rw[show l.length - i=(l.length - (i+1))+1 by omega,narrowAt,hx]at hr2
   simp only at hr2
   have HR2:=Lib.hid hr2
   clear hr2 hr hx
   cases hw:wideB x with
   | true=>
    have hR2:=HR2.out
    rw[hw,if_pos rfl]at hR2
    have HR3:=Lib.hid hR2
    have HN:=Lib.hid (narrow_calls x wr)
    rw[hw]at HN
    clear hR2 hw HR2
    go_wp2_with fail
    refine HN.out.mono ?_
    rintro e _ ⟨rfl,rfl⟩
    go_wp2_with fail
    go_ret
    exact⟨by rw[HR3.out];rfl,rfl⟩
   | false=>
    have hR2:=HR2.out
    rw[hw,if_neg (by decide)]at hR2
    have HR3:=Lib.hid hR2
    have HN:=Lib.hid (narrow_calls x wr)
    rw[hw]at HN
    clear hR2 hw HR2
    go_wp2_with fail
    refine HN.out.mono ?_
    rintro e _ ⟨rfl,rfl⟩
    go_wp2_with fail
    go_roundw
    case rel=>exact⟨i+1,by go_num,hil,HR3,trivial⟩
    case measure=>simp[intOf];omega
  ·have hie:l.length - i=0:=by omega
   have hR2:=hr.out
   rw[hie]at hR2
   have HR3:=Lib.hid hR2
   clear hR2 hr hie
   go_wp2_with fail
   go_ret
   exact⟨by rw[HR3.out];rfl,rfl⟩
set_option maxHeartbeats 4000000 in
set_option maxRecDepth 100000 in
theorem contains_calls(l:List ByteArray)(A:Option Addr)(c:Nat)(w:World)(hA:Kd.C Kd.string w A l.length l) :
  Calls Tryz.prog 261 #[.slice A l.length c,.func (.func 260) #[] #[]] w fun e w'=>e = .returned (.bool (l.any wideB))∧w'=w:=by
 have hge:=narrow_ge l l.length 0 (by omega)
 rw[List.drop_zero]at hge
 have HI:=Lib.hid (index_calls l A c w hA)
 generalize narrowAt l 0 l.length=n at hge HI
 have hv:decide (0≤n)=l.any wideB:=by rw[Bool.eq_iff_iff];simpa using hge
 rw[← hv]
 clear hge hv
 go_enter Tryz.func261,Tryz.ntmps261
 go_wp2_with fail
 refine HI.out.mono ?_
 rintro e _ ⟨rfl,rfl⟩
 go_wp2_with fail
 go_ret
 exact⟨rfl,rfl⟩
def okCommit(o:Ob):Bool:=
 decide (o.rows.length=0) && (decide (o.kids.length=0) && (decide (o.label.size=0) && (decide (0≤o.stamp) && (decide (o.stamp≤1099511627776) && (decide (o.note.size≤40) && (decide (o.root.size=32) &&
  (decide (o.parents.length≤2) && (!(o.parents.any wideB) && (decide (o.parents.length < 2) || !((o.parents.getD 0 ByteArray.empty).toList == (o.parents.getD 1 ByteArray.empty).toList))))))))))
set_option maxHeartbeats 16000000 in
set_option maxRecDepth 100000 in
theorem cright_calls(o:Ob)(Ar:Option Addr)(cr:Nat)(Ak:Option Addr)(ck:Nat)(Ap:Option Addr)(cp:Nat)(w:World)(hO:ObAt w o Ar cr Ak ck Ap cp) :
  Calls Tryz.prog 259 #[.agg (obV o Ar cr Ak ck Ap cp)] w fun e w'=>e = .returned (.bool (okCommit o))∧Below w.heap.size w w':=by
 obtain⟨RV,hRV⟩:∃ RV,RV=okCommit o:=⟨_,rfl⟩
 rw[← hRV]
 obtain⟨knd,lab,rws,kds,prs,stp,nte,rot⟩:=o
 unfold okCommit at hRV
 unfold obV
 simp only at hRV hO ⊢
 have hOp:=hO.p
 clear hO
 simp only at hOp
 generalize rws.length=rl at hRV ⊢
 generalize kds.length=kl at hRV ⊢
 obtain⟨W1,hW1⟩:∃ W1,W1=w.alloc (.cells #[.int .i64 knd,.string lab,.slice Ar rl cr,.slice Ak kl ck,.slice Ap prs.length cp,.int .i64 stp,.string nte,.string rot] 198):=⟨_,rfl⟩
 have hn1:Below w.heap.size w W1:=by rw[hW1];exact(Below.refl _ _).alloc (Nat.le_refl _) _
 have hg1:W1.heap[w.heap.size]? = some (.cells #[.int .i64 knd,.string lab,.slice Ar rl cr,.slice Ak kl ck,.slice Ap prs.length cp,.int .i64 stp,.string nte,.string rot] 198 (0,0)):=by rw[hW1];exact alloc_lastV _ _
 obtain⟨⟨b0,b1,b2,b3⟩,b4,b5,b6,b7⟩:=box8 hg1
 have HC:=Lib.hid (contains_calls prs Ap cp W1 (Kd.C_below hOp hn1))
 have HP:=Lib.hid (Kd.C_below hOp hn1)
 have HN1:=Lib.hid hn1
 have HG1:=Lib.hid hg1
 have HRV:=Lib.hid hRV
 rw[hW1]at b0 b1 b2 b3 b4 b5 b6 b7
 have HW1:=Lib.hid hW1
 clear hW1 hn1 hg1 hOp hRV
 by_cases h1:rl=0
 ·subst h1
  by_cases h2:kl=0
  ·subst h2
   by_cases h3:lab.size=0
   ·obtain rfl:=empty_str h3
    by_cases h4:0≤stp
    ·have h4':¬ stp < 0:=by omega
     by_cases h5:stp≤1099511627776
     ·have h5':¬ (1099511627776:Int) < stp:=by omega
      by_cases h6:nte.size≤40
      ·have h6':¬ (40:Int) < (nte.size:Int):=by omega
       by_cases h7:rot.size=32
       ·have h7':((rot.size:Int) != 32)=false:=by rw[h7];rfl
        have H7:=Lib.hid h7
        clear h7
        by_cases h8:prs.length≤2
        ·have h8':¬ (2:Int) < (prs.length:Int):=by omega
         have hRV2:=HRV.out
         rw[decide_eq_true h4,decide_eq_true h5,decide_eq_true h6,decide_eq_true H7.out,decide_eq_true h8]at hRV2
         simp only[decide_true,Bool.true_and,show decide ((ByteArray.mk #[]).size=0)=true from rfl]at hRV2
         have HRV2:=Lib.hid hRV2
         clear hRV2 HRV
         go_enter Tryz.func259,Tryz.ntmps259
         go_wp2_with fail
         rw[← HW1.out]
         clear b0 b1 b2 b3 b5 b6 b7
         refine HC.out.mono ?_
         rintro e _ ⟨rfl,rfl⟩
         obtain⟨⟨b0,b1,b2,b3⟩,b4,b5,b6,b7⟩:=box8 HG1.out
         cases han:prs.any wideB with
         | true=>
          have hRV3:=HRV2.out
          rw[han,Bool.not_true,Bool.false_and]at hRV3
          have HRV3:=Lib.hid hRV3
          clear hRV3 han
          go_wp2_with fail
          go_ret
          exact⟨by rw[HRV3.out];rfl,HN1.out⟩
         | false=>
          have hRV3:=HRV2.out
          rw[han,Bool.not_false,Bool.true_and]at hRV3
          have HRV3:=Lib.hid hRV3
          clear hRV3 han
          go_wp2_with fail
          by_cases hl2:prs.length < 2
          ·have hl2':(prs.length:Int) < 2:=by omega
           have hRV4:=HRV3.out
           rw[decide_eq_true hl2,Bool.true_or]at hRV4
           have HRV4:=Lib.hid hRV4
           clear hRV4
           go_quiet (fail)
           go_wp2_with fail
           go_ret
           exact⟨by rw[HRV4.out];rfl,pw_below_drewN HN1.out _⟩
          ·have hl2':¬ (prs.length:Int) < 2:=by omega
           have hRV4:=HRV3.out
           obtain⟨x,hx⟩:∃ x,prs[0]? = some x:=⟨_,List.getElem?_eq_getElem (by omega)⟩
           obtain⟨y,hy⟩:∃ y,prs[1]? = some y:=⟨_,List.getElem?_eq_getElem (by omega)⟩
           obtain⟨ad,rfl,c0,hb0⟩:=str_at HP.out hx
           obtain⟨ad',e',c1,hb1⟩:=str_at HP.out hy
           cases e'
           rw[decide_eq_false hl2,Bool.false_or,List.getD_eq_getElem?_getD,List.getD_eq_getElem?_getD,hx,hy]at hRV4
           simp only[Option.getD_some]at hRV4
           have HRV4:=Lib.hid hRV4
           have hg0:0 < prs.length:=by omega
           have hg1:1 < prs.length:=by omega
           have hg1':(1:Int) < (prs.length:Int):=by omega
           rw[show ad.add 0=ad from by simp[Addr.add]]at c0
           have ea:(⟨ad.block,ad.off+1,none⟩:Addr)=ad.add 1:=by
            have:=add_field ad 0 1 (by omega)
            rw[show ad.add 0=ad from by simp[Addr.add]]at this
            exact this
           rw[← ea]at c1
           clear hRV4 hx hy hb0 hb1 ea
           go_quiet (fail)
           cases hxy:(x.toList == y.toList)with
           | true=>
            have hRV5:=HRV4.out
            rw[hxy,Bool.not_true]at hRV5
            have HRV5:=Lib.hid hRV5
            clear hRV5
            go_wp2_with fail
            go_ret
            exact⟨by rw[HRV5.out];rfl,pw_below_drewN HN1.out _⟩
           | false=>
            have hRV5:=HRV4.out
            rw[hxy,Bool.not_false]at hRV5
            have HRV5:=Lib.hid hRV5
            clear hRV5
            go_wp2_with fail
            go_ret
            exact⟨by rw[HRV5.out];rfl,pw_below_drewN HN1.out _⟩
        ·have h8':(2:Int) < (prs.length:Int):=by omega
         go_enter Tryz.func259,Tryz.ntmps259
         go_wp2_with fail
         rw[← HW1.out]
         go_ret
         exact⟨by rw[HRV.out,decide_eq_false h8];simp,HN1.out⟩
       ·have h7n:¬ (rot.size:Int)=32:=by omega
        have h7':((rot.size:Int) != 32)=true:=by simpa using h7n
        have H7:=Lib.hid h7
        clear h7
        go_enter Tryz.func259,Tryz.ntmps259
        go_wp2_with fail
        rw[← HW1.out]
        go_ret
        exact⟨by rw[HRV.out,decide_eq_false H7.out];simp,HN1.out⟩
      ·have h6':(40:Int) < (nte.size:Int):=by omega
       go_enter Tryz.func259,Tryz.ntmps259
       go_wp2_with fail
       rw[← HW1.out]
       go_ret
       exact⟨by rw[HRV.out,decide_eq_false h6];simp,HN1.out⟩
     ·have h5':(1099511627776:Int) < stp:=by omega
      go_enter Tryz.func259,Tryz.ntmps259
      go_wp2_with fail
      rw[← HW1.out]
      go_ret
      exact⟨by rw[HRV.out,decide_eq_false (show ¬ stp≤1099511627776 by omega)];simp,HN1.out⟩
    ·have h4':stp < 0:=by omega
     go_enter Tryz.func259,Tryz.ntmps259
     go_wp2_with fail
     rw[← HW1.out]
     go_ret
     exact⟨by rw[HRV.out,decide_eq_false (show ¬ 0≤stp by omega)];simp,HN1.out⟩
   ·have h3':=full_str h3
    go_enter Tryz.func259,Tryz.ntmps259
    go_wp2_with fail
    rw[← HW1.out]
    go_ret
    exact⟨by rw[HRV.out,decide_eq_false h3];simp,HN1.out⟩
  ·have h2':(0:Int) < (kl:Int):=by omega
   go_enter Tryz.func259,Tryz.ntmps259
   go_wp2_with fail
   rw[← HW1.out]
   go_ret
   exact⟨by rw[HRV.out,decide_eq_false h2];simp,HN1.out⟩
 ·have h1':(0:Int) < (rl:Int):=by omega
  go_enter Tryz.func259,Tryz.ntmps259
  go_wp2_with fail
  rw[← HW1.out]
  go_ret
  exact⟨by rw[HRV.out,decide_eq_false h1];simp,HN1.out⟩
end Go.Proofs.YtlmabbigfdbmbaaGreatDoor.PShelfNil
namespace Go.Proofs.YtlmabbigfdbmbaaGreatDoor.PShelfNil
open Go.RowKit Go.Proofs.YtlmabbigfdbmbaaGreatDoorW.PrintWords Go.Proofs.YtlmabbigfdbmbaaGreatDoorW.PrintLast Go.Proofs.YtlmabbigfdbmbaaGreatDoorW.PrintMore
abbrev Wr(B b:Nat)(p:Value)(bs:List Value)(w:World):Prop:=Lib.BuilderAt 204 5 B b p bs w
abbrev IsWr(B b:Nat)(bs:List Value)(w:World):Prop:=Lib.IsBuilder 204 5 B b bs w
theorem sizeBuilder:(Tryz.prog.info? 202).map (·.size)=some 2:=by kernel_rfl
theorem liesWriter:liesAt Tryz.prog Tryz.prog.depth 204 (2 / Tryz.prog.cellsOf 204) 0 202 1=true:=by kernel_rfl
theorem infoByte:(Tryz.prog.info? 5).map (fun i=>(i.zero,i.size,i.bytes))=some (some (.int .u8 0),1,1):=by kernel_rfl
structure ModW(b:Nat)(w w':World):Prop where
 size:w.heap.size≤w'.heap.size
 block:∀ k,k < w.heap.size→k≠b→(∀ c f,w.heap[k]?≠some (.cells c 5 f))→w'.heap[k]? = w.heap[k]?
theorem ModW.refl(b:Nat)(w:World):ModW b w w:=⟨Nat.le_refl _,fun _ _ _ _=>rfl⟩
theorem ModW.trans{b:Nat}{w w1 w2:World}(h:ModW b w w1)(k:ModW b w1 w2):ModW b w w2:=
 ⟨Nat.le_trans h.size k.size,fun i hi hb ht=>by
  have e:=h.block i hi hb ht
  exact(k.block i (Nat.lt_of_lt_of_le hi h.size) hb (by rw[e];exact ht)).trans e⟩
theorem ModW.of_grown{b:Nat}{w w':World}{row:Option Nat}(h:w.grownBy w' row)(ht:∀ k,row=some k→∃ c,w.heap[k]? = some (.cells c 5 (0,0))):ModW b w w':=
 ⟨h.size,fun k hk _ hn=>h.block k hk (fun e=>by obtain⟨c,hc⟩:=ht k e.symm;exact hn _ _ hc)⟩
theorem ModW.setCell(b:Nat)(w:World)(j:Nat)(v:Value):ModW b w (w.setCell ⟨b,j,none⟩ v):=
 ⟨by simp[World.setCell],fun k _ hb _=>Below.heap_setCell _ _ _ _ hb⟩
theorem ModW.of_below{b:Nat}{w w':World}(h:Below w.heap.size w w'):ModW b w w':=⟨h.size,fun k hk _ _=>h.block k hk⟩
theorem ModW.drew{b:Nat}{w w':World}(h:ModW b w w'):ModW b w w'.drew:=⟨h.size,h.block⟩
set_option maxHeartbeats 1000000 in
set_option maxRecDepth 100000 in
theorem copyCheck_used(b:Nat)(w:World)(h0:w.cell? ⟨b,0,none⟩=some (.pointer (some ⟨b,0,none⟩))) :
  Calls Tryz.prog 178 #[.pointer (some ⟨b,0,none⟩)] w fun e w'=>e = .returned (.tuple #[])∧w'=w:=by
 obtain⟨j,hj,_⟩:=Option.map_eq_some_iff.1 sizeBuilder
 go_enter Tryz.func178,Tryz.ntmps178
 go_wp2
 rw[Lib.run_neq_ptr_same w _ Tryz.underlying200 hj]
 go_wp2
 go_end0
 exact⟨rfl,rfl⟩
set_option maxHeartbeats 1000000 in
set_option maxRecDepth 100000 in
theorem copyCheck_fresh(b:Nat)(w:World)(h0:w.cell? ⟨b,0,none⟩=some (.pointer none))(hsh:w.shape? b=some (204,2))(hfz:w.frozen? ⟨b,0,none⟩=false) :
  Calls Tryz.prog 178 #[.pointer (some ⟨b,0,none⟩)] w fun e w'=>e = .returned (.tuple #[])∧w'=w.setCell ⟨b,0,none⟩ (.pointer (some ⟨b,0,none⟩)):=by
 obtain⟨j,hj,hjs⟩:=Option.map_eq_some_iff.1 sizeBuilder
 go_enter Tryz.func178,Tryz.ntmps178
 go_wp2
 rw[Lib.run_to_unsafe w ⟨b,0,none⟩ Tryz.underlying200 Tryz.underlying304 hj (by rw[hjs];decide) hsh (Nat.zero_lt_succ 1)]
 simp only[Result.andThen]
 rw[Oper.upon_value]
 go_wp2
 rw[run_callFunc_extern Tryz.func199 (by kernel_rfl) (by kernel_rfl) (by kernel_rfl) (e:=Extern.AbiNoEscape.same) (by kernel_rfl)]
 rw[Lib.run_noEscape]
 simp only[Result.andThen]
 rw[Oper.upon_value]
 go_wp2
 rw[Lib.run_from_unsafe w ⟨b,0,none⟩ Tryz.underlying304 Tryz.underlying200 hj hsh liesWriter]
 simp only[Result.andThen]
 rw[Oper.upon_value]
 go_wp2
 go_end0
 exact⟨rfl,rfl⟩
theorem copyCheck(B b:Nat)(bs:List Value)(w:World)(h:IsWr B b bs w) :
  Calls Tryz.prog 178 #[.pointer (some ⟨b,0,none⟩)] w fun e w'=>e = .returned (.tuple #[])∧(Wr B b (.pointer (some ⟨b,0,none⟩)) bs w'∧Below B w w'∧ModW b w w'):=by
 rcases h with h | h
 ·refine(copyCheck_fresh b w h.cell0 h.shape h.frozen0).mono ?_
  rintro e w' ⟨rfl,rfl⟩
  exact⟨rfl,h.used _,(Below.refl B w).setCell (p:=⟨b,0,none⟩) h.1 _,ModW.setCell b w 0 _⟩
 ·refine(copyCheck_used b w h.cell0).mono ?_
  rintro e w' ⟨rfl,rfl⟩
  exact⟨rfl,h,Below.refl B _,ModW.refl b _⟩
set_option maxHeartbeats 2000000 in
set_option maxRecDepth 100000 in
theorem writeByte(B b:Nat)(bs:List Value)(c:Int)(w:World)(h:IsWr B b bs w)(hlen:bs.length+1≤140737488355328)(hBw:B≤w.heap.size) :
  Calls Tryz.prog 177 #[.pointer (some ⟨b,0,none⟩),.int .u8 c] w fun e w'=>e = .returned .nilIface∧(Wr B b (.pointer (some ⟨b,0,none⟩)) (bs ++ [.int .u8 c]) w'∧Below B w w'∧ModW b w w'):=by
 obtain⟨i0,hi,hz0,hz1,hz2⟩:=info_parts infoByte
 have HC:=Lib.hid (copyCheck B b bs w h)
 go_enter Tryz.func177,Tryz.ntmps177
 go_wp2_with (go_at_call 178;refine HC.out.mono ?_)
 rintro e w1 ⟨rfl,h1,hb1,hm1⟩
 obtain⟨hB,v,hbk,hown,hne⟩:=h1
 have c0:w1.cell? ⟨b,0,none⟩=some (.pointer (some ⟨b,0,none⟩)):=by rw[Lib.cell_of_heap hbk];rfl
 have c1:w1.cell? ⟨b,1,none⟩=some v:=by rw[Lib.cell_of_heap hbk];rfl
 go_wp2_with (at_builtin;refine wpList_append_own _ rfl _ _ 129 rfl B 5 i0 (.int .u8 0) 1 1 Tryz.underlying129 hi hz0 hz1 hz2 rfl (by decide) _ _ _ rfl (hown.alloc _) ⟨w1.heap.size,0,none⟩ 1 1 [.int .u8 c] rfl rfl ?c1 ?c2 ?c3 ?c4 ?c5 ?_)
 case c1=>
  intro j u hj
  match j,hj with
  | 0,hj=>simp at hj;subst hj;simp[Addr.add]
 case c2=>intro u hu;simp at hu;subst hu;rfl
 case c3=>unfold maxLen;omega
 case c4=>omega
 case c5=>have:=hb1.size;simp;omega
 intro v' w2 hown' hgrow _
 have hlt:b < w1.heap.size:=by
  rcases Nat.lt_or_ge b w1.heap.size with h' | h'
  ·exact h'
  ·simp[Array.getElem?_eq_none h']at hbk
 have hb2:w2.heap[b]? = some (.cells #[.pointer (some ⟨b,0,none⟩),v] 204 (0,0)):=by
  rw[hgrow.block b (by simp;omega) (fun e=>hne e.symm),Lib.alloc_old w1 _ b hlt]
  exact hbk
 have d0:w2.cell? ⟨b,0,none⟩=some (.pointer (some ⟨b,0,none⟩)):=by rw[Lib.cell_of_heap hb2];rfl
 have d1:w2.cell? ⟨b,1,none⟩=some v:=by rw[Lib.cell_of_heap hb2];rfl
 have f1:w2.frozen? ⟨b,1,none⟩=false:=Lib.frozen_of_heap hb2 1
 obtain⟨g,cap,rfl⟩:∃ g cap,v' = .slice (some ⟨g,0,none⟩) (bs.length+1) cap:=by
  rcases hown'.2 with ⟨_,h0⟩ | ⟨g,cap,cur,hv,_⟩
  ·omega
  ·exact⟨g,cap,hv⟩
 go_wp2
 go_ret
 refine⟨rfl,?_,?_,?_⟩
 ·exact Lib.BuilderAt.put (T:=204) (e:=5) hB hb2 (bs':=bs ++ [.int .u8 c]) (by simpa using hown') (by decide)
 ·exact((hb1.alloc (by have:=hb1.size;omega) _).grown hgrow (by have:=hb1.size;simp;omega) (fun k hk=>(hown.lt k hk).1)).setCell (p:=⟨b,1,none⟩) hB _
 ·exact((hm1.trans (ModW.of_below ((Below.refl _ _).alloc (Nat.le_refl _) _))).trans (ModW.of_grown hgrow (fun k hk=>own_typed (hown.alloc _) k hk))).trans (ModW.setCell b _ 1 _)
set_option maxHeartbeats 2000000 in
set_option maxRecDepth 100000 in
theorem writeString(B b:Nat)(bs:List Value)(s:ByteArray)(w:World)(h:IsWr B b bs w)(hlen:bs.length+s.size≤140737488355328)(hBw:B≤w.heap.size) :
  Calls Tryz.prog 151 #[.pointer (some ⟨b,0,none⟩),.string s] w fun e w'=>e = .returned (.tuple #[.int .i64 s.size,.nilIface])∧(Wr B b (.pointer (some ⟨b,0,none⟩)) (bs++Lib.strCells s) w'∧Below B w w'∧ModW b w w'):=by
 obtain⟨i0,hi,hz0,hz1,hz2⟩:=info_parts infoByte
 have HC:=Lib.hid (copyCheck B b bs w h)
 go_enter Tryz.func151,Tryz.ntmps151
 go_wp2_with (go_at_call 178;refine HC.out.mono ?_)
 rintro e w1 ⟨rfl,h1,hb1,hm1⟩
 obtain⟨hB,v,hbk,hown,hne⟩:=h1
 have c0:w1.cell? ⟨b,0,none⟩=some (.pointer (some ⟨b,0,none⟩)):=by rw[Lib.cell_of_heap hbk];rfl
 have c1:w1.cell? ⟨b,1,none⟩=some v:=by rw[Lib.cell_of_heap hbk];rfl
 go_wp2_with (at_builtin;refine Lib.wpList_append_own_string _ rfl _ _ 129 9 rfl B 5 i0 Tryz.underlying129 Tryz.underlying9 hi hz0 hz1 hz2 _ _ _ rfl hown s rfl ?c3 ?c4 ?c5 ?_)
 case c3=>unfold maxLen;omega
 case c4=>omega
 case c5=>have:=hb1.size;omega
 intro v' w2 hown' hgrow _
 have hlt:b < w1.heap.size:=by
  rcases Nat.lt_or_ge b w1.heap.size with h' | h'
  ·exact h'
  ·simp[Array.getElem?_eq_none h']at hbk
 have hb2:w2.heap[b]? = some (.cells #[.pointer (some ⟨b,0,none⟩),v] 204 (0,0)):=by
  rw[hgrow.block b hlt (fun e=>hne e.symm)]
  exact hbk
 have d0:w2.cell? ⟨b,0,none⟩=some (.pointer (some ⟨b,0,none⟩)):=by rw[Lib.cell_of_heap hb2];rfl
 have d1:w2.cell? ⟨b,1,none⟩=some v:=by rw[Lib.cell_of_heap hb2];rfl
 have f1:w2.frozen? ⟨b,1,none⟩=false:=Lib.frozen_of_heap hb2 1
 obtain⟨ao,n',cap,rfl⟩:∃ ao n' cap,v' = .slice ao n' cap:=by
  rcases hown'.2 with ⟨hv,_⟩ | ⟨g,cap,cur,hv,_⟩
  ·exact⟨_,_,_,hv⟩
  ·exact⟨_,_,_,hv⟩
 go_wp2
 go_ret2
 refine⟨rfl,?_,?_,?_⟩
 ·exact Lib.BuilderAt.put (T:=204) (e:=5) hB hb2 (bs':=bs++Lib.strCells s) (by simpa [Lib.strCells_length] using hown') (by decide)
 ·exact(hb1.grown hgrow (by have:=hb1.size;omega) (fun k hk=>(hown.lt k hk).1)).setCell (p:=⟨b,1,none⟩) hB _
 ·exact(hm1.trans (ModW.of_grown hgrow (fun k hk=>own_typed hown k hk))).trans (ModW.setCell b _ 1 _)
set_option maxHeartbeats 1000000 in
set_option maxRecDepth 100000 in
theorem builderString(B b:Nat)(l:List UInt8)(w:World)(h:IsWr B b (Lib.byteCells l) w)(h0:l≠[]) :
  Calls Tryz.prog 114 #[.pointer (some ⟨b,0,none⟩)] w fun e w'=>e = .returned (.string ⟨l.toArray⟩)∧Below B w w':=by
 obtain⟨p,hB,v,hbk,hown,hne⟩:∃ p,Wr B b p (Lib.byteCells l) w:=by
  rcases h with h | h
  ·exact⟨_,h⟩
  ·exact⟨_,h⟩
 have hl0:l.length≠0:=by simpa using h0
 rw[Lib.byteCells_length]at hown
 obtain⟨g,cap,cur,rfl,hbg,hg,hnc,hcm,hcs,htake⟩:∃ g cap cur,v = .slice (some ⟨g,0,none⟩) l.length cap∧B≤g∧w.heap[g]? = some (.cells cur 5 (0,0))∧l.length≤cap∧cap≤maxLen∧cur.size=cap * 1∧cur.toList.take (l.length * 1)=Lib.byteCells l:=by
  rcases hown.2 with ⟨_,hz⟩ | ⟨g,cap,cur,hv,r⟩
  ·exact absurd hz hl0
  ·exact⟨g,cap,cur,hv,r⟩
 have c1:w.drew.cell? ⟨b,1,none⟩=some (.slice (some ⟨g,0,none⟩) l.length cap):=by
  have:w.drew.heap[b]? = some (.cells #[p,.slice (some ⟨g,0,none⟩) l.length cap] 204 (0,0)):=hbk
  rw[Lib.cell_of_heap this];rfl
 have hSD:(Builtin.unsafeSliceData_ #[129] 248 #[.slice (some ⟨g,0,none⟩) l.length cap]).run Tryz.prog w.drew = .ok (.pointer (some ⟨g,0,none⟩)) w.drew:=
  Lib.run_unsafeSliceData_row _ _ _ _ _ _ (by omega)
 have hUS:(Builtin.unsafeString_ #[248,3] 9 #[.pointer (some ⟨g,0,none⟩),.int .i64 l.length]).run Tryz.prog w.drew = .ok (.string ⟨l.toArray⟩) (w.drew.freeze ⟨g,0,none⟩ l.length):=by
  refine Lib.run_unsafeString_row w.drew 248 3 9 5 Tryz.underlying248 (by kernel_rfl) g cur.size (by have hg':w.drew.heap[g]? = some (.cells cur 5 (0,0)):=hg;simp[World.shape?,hg']) l h0 (by omega) (by unfold maxLen at hcm;omega) ?_
  intro j x hx
  have:=hown.cells (g:=g) rfl j (.int .u8 x.toNat) (by simp[Lib.byteCells,hx])
  exact this
 go_enter Tryz.func114,Tryz.ntmps114
 go_wp2
 go_region
 all_goals (go_wp2;go_ret;exact⟨rfl,Lib.below_freeze (Below.drew (Below.refl B w)) (p:=⟨g,0,none⟩) hbg _⟩)
end Go.Proofs.YtlmabbigfdbmbaaGreatDoor.PShelfNil
namespace Go.Proofs.YtlmabbigfdbmbaaGreatDoor.PShelfNil
open Go.RowKit Go.Proofs.YtlmabbigfdbmbaaGreatDoorW.PrintWords Go.Proofs.YtlmabbigfdbmbaaGreatDoorW.PrintLast Go.Proofs.YtlmabbigfdbmbaaGreatDoorW.PrintMore
def bes(n:Nat):List UInt8:=if h:n=0 then []else bes (n / 256) ++ [UInt8.ofNat (n % 256)]
theorem bes_zero:bes 0 = []:=by unfold bes;simp
theorem bes_pos{n:Nat}(h:0 < n):bes n=bes (n / 256) ++ [UInt8.ofNat (n % 256)]:=by
 rw[bes];rw[dif_neg (by omega)]
theorem bes_len:∀ (k n:Nat),n < 256 ^ k→(bes n).length≤k
 | 0,n,h=>by
  have:n=0:=by simp at h;exact h
  rw[this,bes_zero];exact Nat.le_refl _
 | k+1,n,h=>by
  rcases Nat.eq_zero_or_pos n with rfl | h0
  ·rw[bes_zero];exact Nat.zero_le _
  ·rw[bes_pos h0,List.length_append]
   have:=bes_len k (n / 256) (by rw[Nat.pow_succ]at h;exact Nat.div_lt_of_lt_mul (by omega))
   simp only[List.length_singleton];omega
theorem bes_len8{n:Nat}(h:n < 18446744073709551616):(bes n).length≤8:=bes_len 8 n (by simpa using h)
theorem bes_at:∀ (k n i:Nat),(bes n).length=k→i < k→(bes n)[i]? = some (UInt8.ofNat (n / 256 ^ (k - 1 - i) % 256))
 | 0,n,i,_,h=>by omega
 | k+1,n,i,hl,hi=>by
  rcases Nat.eq_zero_or_pos n with rfl | h0
  ·rw[bes_zero]at hl;cases hl
  ·rw[bes_pos h0]at hl ⊢
   have hl':(bes (n / 256)).length=k:=by simpa using hl
   rcases Nat.lt_or_ge i k with h | h
   ·rw[List.getElem?_append_left (by omega),bes_at k (n / 256) i hl' h,Nat.div_div_eq_div_mul]
    rw[show k+1 - 1 - i=(k - 1 - i)+1 by omega,Nat.pow_succ,Nat.mul_comm (256 ^ (k - 1 - i)) 256]
   ·have:i=k:=by omega
    subst this
    rw[List.getElem?_append_right (by omega),hl']
    simp
def headB(kind n:Nat):List UInt8:=UInt8.ofNat (kind * 16+(bes n).length) :: bes n
theorem byteCells_append(a b:List UInt8):Lib.byteCells (a++b)=Lib.byteCells a++Lib.byteCells b:=by simp[Lib.byteCells]
theorem bits_or_head':∀ k:Fin 5,∀ j:Fin 9,bits BinOp.or IntKind.u8 (((k:Nat):Int) * 16) ((j:Nat):Int)=((k:Nat):Int) * 16+((j:Nat):Int):=by decide
theorem bits_or_head(k j:Nat)(hk:k≤4)(hj:j≤8):bits BinOp.or IntKind.u8 ((k:Int) * 16) (j:Int)=(k:Int) * 16+(j:Int):=bits_or_head' ⟨k,by omega⟩ ⟨j,by omega⟩
def HeadAt(B b:Nat)(bs:List Value)(kind n:Nat)(w:World)(i:Nat)(W:World):Prop:=
 i≤(bes n).length∧Wr B b (.pointer (some ⟨b,0,none⟩)) (bs++Lib.byteCells ((headB kind n).take ((bes n).length - i+1))) W∧Below B w W∧ModW b w W
set_option maxHeartbeats 4000000 in
set_option maxRecDepth 100000 in
theorem head_calls(B b:Nat)(bs:List Value)(kind n:Nat)(w:World)(h:IsWr B b bs w)(hk:kind≤4)(hn:n < 18446744073709551616)(hlen:bs.length+9≤140737488355328)(hBw:B≤w.heap.size) :
  Calls Tryz.prog 150 #[.pointer (some ⟨b,0,none⟩),.int .u8 (kind:Int),.int .u64 (n:Int)] w fun e w'=>e = .returned (.tuple #[])∧(Wr B b (.pointer (some ⟨b,0,none⟩)) (bs++Lib.byteCells (headB kind n)) w'∧Below B w w'∧ModW b w w'):=by
 have HL:=Lib.hid (bes_len8 hn)
 have H:=Lib.hid h
 clear h
 go_enter Tryz.func150,Tryz.ntmps150
 go_wp2_with fail
 go_loopw [6,7] (fun k m wr=>w=wr∧∃ j mm:Nat,k = .int .u8 (j:Int)∧m = .int .u64 (mm:Int)∧mm≤n∧j+(bes mm).length=(bes n).length) (fun _ m _=>(intOf m).toNat)
 case atStart=>exact⟨rfl,0,n,rfl,rfl,Nat.le_refl _,by simp⟩
 case round=>
  obtain⟨rfl,j,mm,rfl,rfl,hle,hj⟩:=hrel
  by_cases h0:0 < mm
  ·have h1:=bes_pos h0
   go_wp2_with fail
   have HLo:=HL.out
   have h2:(bes mm).length=(bes (mm / 256)).length+1:=by rw[h1];simp
   go_roundw
   case rel=>exact⟨trivial,j+1,mm / 256,by congr 1;omega,by congr 1,by omega,by omega⟩
   case measure=>simp[intOf];omega
  ·have hm0:mm=0:=by omega
   rw[hm0,bes_zero]at hj
   clear hm0
   have hj':j=(bes n).length:=by simpa using hj
   have hj8:j≤8:=by rw[hj'];exact HL.out
   have hor:=bits_or_head kind j hk hj8
   have HJ:=Lib.hid hj'
   have HX:=Lib.hid (writeByte B b bs ((kind:Int) * 16+(j:Int)) w H.out (by omega) hBw)
   clear hj hj'
   go_wp2_with fail
   refine HX.out.mono ?_
   rintro e W1 ⟨rfl,hw,hb,hm⟩
   have hi:HeadAt B b bs kind n w j W1:=⟨by rw[← HJ.out];exact Nat.le_refl _,by
    rw[HJ.out,Nat.sub_self,Nat.zero_add]
    have e1:Lib.byteCells ((headB kind n).take 1) = [.int .u8 ((kind:Int) * 16+(j:Int))]:=by
     simp only[headB,List.take_succ_cons,List.take_zero,Lib.byteCells,List.map_cons,List.map_nil]
     rw[← HJ.out,UInt8.toNat_ofNat']
     congr 1
     congr 1
     omega
    rw[e1];exact hw,hb,hm⟩
   have HI:=Lib.hid hi
   clear hw hb HX hi hm
   go_wp2_with fail
   go_loopw [6] (fun k wx=>∃ i:Nat,k = .int .u8 (i:Int)∧HeadAt B b bs kind n w i wx) (fun k _=>(intOf k).toNat)
   case atStart=>exact⟨j,rfl,HI.out⟩
   case round=>
    obtain⟨i,rfl,hle,hw,hb,hm⟩:=hrel
    have HM:=Lib.hid hm
    clear hm
    have hi8:i≤8:=Nat.le_trans hle HL.out
    by_cases h0:0 < i
    ·have hat:=bes_at (bes n).length n ((bes n).length - i) rfl (by omega)
     rw[show(bes n).length - 1 - ((bes n).length - i)=i - 1 by omega]at hat
     have HAT:=Lib.hid hat
     have hlt:(bs++Lib.byteCells ((headB kind n).take ((bes n).length - i+1))).length+1≤140737488355328:=by
      rw[List.length_append,Lib.byteCells_length,List.length_take]
      have:=HL.out;omega
     have HX:=Lib.hid (fun c=>writeByte B b _ c wr (.inr hw) hlt (Nat.le_trans hBw hb.size))
     have HB:=Lib.hid hb
     clear hat hlt hw hb
     go_wp2_with fail
     refine(HX.out _).mono ?_
     rintro e W2 ⟨rfl,hw2,hb2,hm2⟩
     have hn2:HeadAt B b bs kind n w (i - 1) W2:=by
      refine⟨by omega,?_,HB.out.trans hb2,HM.out.trans hm2⟩
      rw[show(bes n).length - (i - 1)+1=((bes n).length - i+1)+1 by omega,List.take_add_one]
      have h2:(headB kind n)[(bes n).length - i+1]? = some (UInt8.ofNat (n / 256 ^ (i - 1) % 256)):=HAT.out
      rw[h2,Option.toList_some]
      have h3:Lib.byteCells [UInt8.ofNat (n / 256 ^ (i - 1) % 256)] = [.int .u8 ((n:Int) / 2 ^ (8 * (i - 1)) % 256)]:=by
       simp only[Lib.byteCells,List.map_cons,List.map_nil]
       rw[UInt8.toNat_ofNat']
       congr 1
       congr 1
       rw[show(256:Nat)=2 ^ 8 from rfl,← Nat.pow_mul]
       simp
      rw[byteCells_append,h3,← List.append_assoc]
      exact hw2
     have HN:=Lib.hid hn2
     clear hw2 hb2 hn2 HX hm2
     go_wp2_with fail
     go_roundw
     case rel=>exact⟨i - 1,by congr 1;omega,HN.out⟩
     case measure=>simp[intOf];omega
    ·have hi0:i=0:=by omega
     have hfin:Wr B b (.pointer (some ⟨b,0,none⟩)) (bs++Lib.byteCells (headB kind n)) wr:=by
      rw[hi0,Nat.sub_zero]at hw
      rw[List.take_of_length_le (by simp[headB])]at hw
      exact hw
     have HF:=Lib.hid hfin
     have HB:=Lib.hid hb
     clear hw hb hfin hi0
     go_wp2_with fail
     go_end0
     exact⟨rfl,HF.out,HB.out,HM.out⟩
end Go.Proofs.YtlmabbigfdbmbaaGreatDoor.PShelfNil
namespace Go.Proofs.YtlmabbigfdbmbaaGreatDoor.PShelfNil
open Go.RowKit Go.Proofs.YtlmabbigfdbmbaaGreatDoorW.PrintWords Go.Proofs.YtlmabbigfdbmbaaGreatDoorW.PrintLast Go.Proofs.YtlmabbigfdbmbaaGreatDoorW.PrintMore
mutual
def encS:S32→List UInt8
 | ⟨k,n,s,l⟩=>if k=1 then (if n < 0 then headB 2 (-(n+1)).toNat else headB 1 n.toNat)else if k=2 then headB 3 s.size++s.data.toList else headB 4 l.length++encL l
def encL:List S32→List UInt8
 | []=>[]
 | x :: xs=>encS x++encL xs
end
mutual
def wfS:S32→Prop
 | ⟨k,n,s,l⟩=>-9223372036854775808≤n∧n≤9223372036854775807∧s.size≤140737488355328∧l.length≤140737488355328∧wfL l
def wfL:List S32→Prop
 | []=>True
 | x :: xs=>wfS x∧wfL xs
end
theorem wfL_at:∀ {l:List S32},wfL l→∀ {i:Nat} {x:S32},l[i]? = some x→wfS x
 | [],_,i,x,h=>by simp at h
 | y :: ys,hw,i,x,h=>by
  rw[wfL]at hw
  cases i with
  | zero=>simp at h;exact h▸hw.1
  | succ i=>exact wfL_at hw.2 (by simpa using h)
theorem encL_snoc:∀ (l:List S32) (x:S32),encL (l ++ [x])=encL l++encS x
 | [],x=>by simp[encL]
 | y :: ys,x=>by simp[encL,encL_snoc ys x]
theorem encL_take_le:∀ (l:List S32) (i:Nat),(encL (l.take i)).length≤(encL l).length
 | [],i=>by simp
 | y :: ys,0=>by simp[encL]
 | y :: ys,i+1=>by
  have:=encL_take_le ys i
  simp[encL];exact this
theorem IsWr.far{B b:Nat}{bs:List Value}{w w':World}(h:IsWr B b bs w)(hb:Below w.heap.size w w'):IsWr B b bs w':=by
 have f:∀ p,Wr B b p bs w→Wr B b p bs w':=fun p ⟨h1,v,h2,h3,h4⟩=>
  ⟨h1,v,(hb.block b (Array.getElem?_eq_some_iff.1 h2).1).trans h2,own_move h3 (fun k hk=>hb.block k (own_lt h3 k hk)),h4⟩
 exact h.elim (fun x=> .inl (f _ x)) (fun x=> .inr (f _ x))
def PutAt(w0:World)(b:Nat)(bs:List Value)(w:World)(g:Nat)(cs:Array Value)(l:List S32)(i:Nat)(W:World):Prop:=
 i≤l.length∧Wr w0.heap.size b (.pointer (some ⟨b,0,none⟩)) (bs++Lib.byteCells (headB 4 l.length++encL (l.take i))) W∧Below w0.heap.size w0 W∧ModW b w W
theorem i64_not_neg(n:Int)(h0 : -9223372036854775808≤n)(h1:n < 0):bits .xor .i64 (-1) n = -1 - n:=by
 show IntKind.i64.wrap ((BitVec.ofInt 64 (-1) ^^^ BitVec.ofInt 64 n).toNat:Int)=_
 have h2:BitVec.ofInt 64 (-1)=BitVec.allOnes 64:=by decide
 rw[h2,BitVec.allOnes_xor,BitVec.toNat_not,BitVec.toNat_ofInt]
 simp[IntKind.wrap,IntKind.bits,IntKind.signed]
 omega
theorem headB_len(k n:Nat)(h:n < 18446744073709551616):(headB k n).length≤9:=by
 have:=bes_len8 h
 simp only[headB,List.length_cons];omega
theorem strCells_bytes(s:ByteArray):Lib.strCells s=Lib.byteCells s.data.toList:=by simp[Lib.strCells,Lib.byteCells]
set_option maxHeartbeats 8000000 in
set_option maxRecDepth 100000 in
theorem put_calls(m:Nat):∀ (x:S32) (hm:SizeOf.sizeOf x < m) (w0:World) (b:Nat) (bs:List Value) (A:Option Addr) (c:Nat) (w:World) (h:IsWr w0.heap.size b bs w) (hA:Kd.C k32 w0 A x.f3.length x.f3) (hx:wfS x)
  (hlen:bs.length+(encS x).length+16≤140737488355328) (hb0:Below w0.heap.size w0 w),
  Calls Tryz.prog 113 #[.pointer (some ⟨b,0,none⟩),.agg #[.int .i64 x.f0,.int .i64 x.f1,.string x.f2,.slice A x.f3.length c]] w fun e w'=>e = .returned (.tuple #[])∧(Wr w0.heap.size b (.pointer (some ⟨b,0,none⟩)) (bs++Lib.byteCells (encS x)) w'∧Below w0.heap.size w0 w'∧ModW b w w'):=by
 induction m with
 | zero=>intro x hm;omega
 | succ m ih=>
  rintro⟨k,n,s,l⟩ hm w0 b bs A c w h hA hx hlen hb0
  simp only at hA ⊢
  rw[wfS]at hx
  obtain⟨hn0,hn1,hss,hll,hwl⟩:=hx
  rw[encS]at hlen ⊢
  have H:=Lib.hid h
  have HA:=Lib.hid hA
  have HB:=Lib.hid hb0
  have HW:=Lib.hid hwl
  have hlt:=h.elim (fun e=>e.lt) (fun e=>e.lt)
  have HIH:=Lib.hid ih
  clear h hA hb0 hwl ih
  by_cases hk1:k=1
  ·rw[if_pos hk1]at hlen
   rw[if_pos hk1]
   by_cases hneg:n < 0
   ·rw[if_pos hneg]at hlen
    rw[if_pos hneg]
    obtain⟨q,hq⟩:∃ q:Nat,(-(n+1)).toNat=q:=⟨_,rfl⟩
    rw[hq]at hlen ⊢
    go_enter Tryz.func113,Tryz.ntmps113
    go_wp2_with fail
    obtain⟨W1,hW1⟩:∃ W1,W1=w.alloc (.cells #[.int .i64 1,.int .i64 n,.string s,.slice A l.length c] 32):=⟨_,rfl⟩
    rw[← hW1]
    have hn1:Below w.heap.size w W1:=by rw[hW1];exact(Below.refl _ _).alloc (Nat.le_refl _) _
    clear hW1
    have hB1:Below w0.heap.size w0 W1:=HB.out.trans (hn1.mono HB.out.size)
    rw[i64_not_neg n hn0 hneg,show IntKind.u64.wrap (-1 - n)=(q:Int)by rw[IntKind.wrap_u64];omega]
    have hhl:=headB_len 2 q (by omega)
    refine(head_calls w0.heap.size b bs 2 q W1 (H.out.far hn1) (by decide) (by omega) (by omega) hB1.size).mono ?_
    rintro e W2 ⟨rfl,hw2,hb2,hm2⟩
    have HD:=Lib.hid (And.intro hw2 (And.intro (hB1.trans hb2) ((ModW.of_below hn1).trans hm2)))
    clear hw2 hb2 hm2 hB1 hn1
    go_wp2_with fail
    go_end0
    exact⟨rfl,HD.out⟩
   ·rw[if_neg hneg]at hlen
    rw[if_neg hneg]
    obtain⟨q,rfl⟩:∃ q:Nat,n=(q:Int):=⟨n.toNat,by omega⟩
    rw[Int.toNat_natCast]at hlen ⊢
    go_enter Tryz.func113,Tryz.ntmps113
    go_wp2_with fail
    obtain⟨W1,hW1⟩:∃ W1,W1=w.alloc (.cells #[.int .i64 1,.int .i64 (q:Int),.string s,.slice A l.length c] 32):=⟨_,rfl⟩
    rw[← hW1]
    have hn1:Below w.heap.size w W1:=by rw[hW1];exact(Below.refl _ _).alloc (Nat.le_refl _) _
    clear hW1
    have hB1:Below w0.heap.size w0 W1:=HB.out.trans (hn1.mono HB.out.size)
    have hhl:=headB_len 1 q (by omega)
    refine(head_calls w0.heap.size b bs 1 q W1 (H.out.far hn1) (by decide) (by omega) (by omega) hB1.size).mono ?_
    rintro e W2 ⟨rfl,hw2,hb2,hm2⟩
    have HD:=Lib.hid (And.intro hw2 (And.intro (hB1.trans hb2) ((ModW.of_below hn1).trans hm2)))
    clear hw2 hb2 hm2 hB1 hn1
    go_wp2_with fail
    go_end0
    exact⟨rfl,HD.out⟩
  ·by_cases hk2:k=2
   ·rw[if_neg hk1,if_pos hk2]at hlen
    rw[if_neg hk1,if_pos hk2]
    go_enter Tryz.func113,Tryz.ntmps113
    go_wp2_with fail
    obtain⟨W1,hW1⟩:∃ W1,W1=w.alloc (.cells #[.int .i64 2,.int .i64 n,.string s,.slice A l.length c] 32):=⟨_,rfl⟩
    rw[← hW1]
    have hn1:Below w.heap.size w W1:=by rw[hW1];exact(Below.refl _ _).alloc (Nat.le_refl _) _
    have hg1:W1.heap[w.heap.size]? = some (.cells #[.int .i64 2,.int .i64 n,.string s,.slice A l.length c] 32 (0,0)):=by rw[hW1];exact heap_alloc_last _ _
    have hgs:w.heap.size < W1.heap.size:=(Array.getElem?_eq_some_iff.1 hg1).1
    have hB1:Below w0.heap.size w0 W1:=HB.out.trans (hn1.mono HB.out.size)
    have hhl:=headB_len 3 s.size (by omega)
    refine(head_calls w0.heap.size b bs 3 s.size W1 (H.out.far hn1) (by decide) (by omega) (by omega) hB1.size).mono ?_
    rintro e W2 ⟨rfl,hw2,hb2,hm2⟩
    have hc2:W2.drew.cell? ⟨w.heap.size,2,none⟩=some (.string s):=by
     have hh:W2.drew.heap[w.heap.size]? = _:=(hm2.block _ hgs (by omega) (by rw[hg1];intro c f e;injection e with e;injection e with _ e _;cases e)).trans hg1
     rw[Lib.cell_of_heap hh];rfl
    have hws:=writeString w0.heap.size b _ s W2.drew (IsWr.far (.inr hw2) ((Below.refl _ _).drew)) (by
     simp only[List.length_append,Lib.byteCells_length]at hlen ⊢
     have:s.data.toList.length=s.size:=by rw[Array.length_toList];rfl
     omega) (Nat.le_trans hB1.size hb2.size)
    rw[List.append_assoc,strCells_bytes,← byteCells_append]at hws
    have HWS:=Lib.hid hws
    have HD:=Lib.hid (And.intro (hB1.trans hb2) ((ModW.of_below hn1).trans hm2))
    clear hw2 hb2 hm2 hn1 hW1 hg1 hgs hB1 hws
    go_wp2_with fail
    go_region_with (refine HWS.out.mono ?_;rintro e W3 ⟨rfl,hw3,hb3,hm3⟩)
    all_goals (go_wp2_with fail;go_end0;exact⟨rfl,hw3,HD.out.1.trans (Below.trans ((Below.refl _ _).drew) hb3),HD.out.2.trans (ModW.trans (ModW.refl b _).drew hm3)⟩)
   ·rw[if_neg hk1,if_neg hk2]at hlen
    rw[if_neg hk1,if_neg hk2]
    go_enter Tryz.func113,Tryz.ntmps113
    go_wp2_with fail
    obtain⟨W1,hW1⟩:∃ W1,W1=w.alloc (.cells #[.int .i64 k,.int .i64 n,.string s,.slice A l.length c] 32):=⟨_,rfl⟩
    rw[← hW1]
    have hn1:Below w.heap.size w W1:=by rw[hW1];exact(Below.refl _ _).alloc (Nat.le_refl _) _
    have hg1:W1.heap[w.heap.size]? = some (.cells #[.int .i64 k,.int .i64 n,.string s,.slice A l.length c] 32 (0,0)):=by rw[hW1];exact heap_alloc_last _ _
    have hgs:w.heap.size < W1.heap.size:=(Array.getElem?_eq_some_iff.1 hg1).1
    have hB1:Below w0.heap.size w0 W1:=HB.out.trans (hn1.mono HB.out.size)
    have hlen1:(headB 4 l.length).length≤9:=by
     have:=bes_len8 (n:=l.length) (by omega)
     simp only[headB,List.length_cons];omega
    refine(head_calls w0.heap.size b bs 4 l.length W1 (H.out.far hn1) (by decide) (by omega) (by omega) hB1.size).mono ?_
    rintro e W2 ⟨rfl,hw2,hb2,hm2⟩
    have hc2:W2.cell? ⟨w.heap.size,3,none⟩=some (.slice A l.length c):=by
     rw[Lib.cell_of_heap ((hm2.block _ hgs (by omega) (by rw[hg1];intro c f e;injection e with e;injection e with _ e _;cases e)).trans hg1)];rfl
    have hpa:PutAt w0 b bs w w.heap.size #[] l 0 W2:=⟨Nat.zero_le _,by simpa [encL] using hw2,hB1.trans hb2,(ModW.of_below hn1).trans hm2⟩
    have HPA:=Lib.hid hpa
    clear hW1 hg1 hgs hB1 hw2 hb2 hm2 hpa
    go_wp2_with fail
    go_loopw [17] (fun v wr=>∃ i:Nat,v = .int .i64 (i:Int)∧PutAt w0 b bs w w.heap.size #[] l i wr) (fun v _=>l.length - (intOf v).toNat)
    case atStart=>exact⟨0,rfl,HPA.out⟩
    case round=>
     obtain⟨i,rfl,hi,hwr,hbe,hmo⟩:=hrel
     have HWR:=Lib.hid hwr
     have HBE:=Lib.hid hbe
     have HMO:=Lib.hid hmo
     clear hwr hbe hmo
     by_cases hil:i < l.length
     ·obtain⟨ad,A3,c3,rfl,c0,c1,c2,c3',l3,g3⟩:=at_T32 HA.out (i:Int) (by omega) (by omega)
      obtain⟨x,hx⟩:∃ x,l[i]? = some x:=⟨_,List.getElem?_eq_getElem hil⟩
      have hrd:rd_T32 l (i:Int)=x:=by unfold rd_T32;rw[Int.toNat_natCast,List.getD_eq_getElem?_getD,hx];rfl
      rw[hrd]at c0 c1 c2 c3' l3 g3
      rw[Int.toNat_natCast]at c0 c1 c2 c3'
      have hbk:=block_lt_of_cell c0
      have c0:=(HBE.out.cell hbk).trans c0
      have c1:=(HBE.out.cell (p:=⟨(ad.add (i * 4)).block,(ad.add (i * 4)).off+1,none⟩) hbk).trans c1
      have c2:=(HBE.out.cell (p:=⟨(ad.add (i * 4)).block,(ad.add (i * 4)).off+2,none⟩) hbk).trans c2
      have c3':=(HBE.out.cell (p:=⟨(ad.add (i * 4)).block,(ad.add (i * 4)).off+3,none⟩) hbk).trans c3'
      have HX:=Lib.hid hx
      have HG3:=Lib.hid g3
      clear hx hrd g3 hbk
      go_wp2_with fail
      obtain⟨W3,hW3⟩:∃ W3,W3=wr.alloc (.cells #[.int .i64 x.f0,.int .i64 x.f1,.string x.f2,.slice A3 x.f3.length c3] 32):=⟨_,rfl⟩
      rw[← hW3]
      have hn3:Below wr.heap.size wr W3:=by rw[hW3];exact(Below.refl _ _).alloc (Nat.le_refl _) _
      clear hW3
      have hsz:SizeOf.sizeOf x < m:=by
       have:=List.sizeOf_lt_of_mem (List.mem_of_getElem? HX.out)
       simp at hm;omega
      have hxl:(l.take (i+1))=l.take i ++ [x]:=by rw[List.take_add_one,HX.out];rfl
      have hle:(bs++Lib.byteCells (headB 4 l.length++encL (l.take i))).length+(encS x).length+16≤140737488355328:=by
       have:=encL_take_le l (i+1)
       rw[hxl,encL_snoc]at this
       simp only[List.length_append,Lib.byteCells_length]at this hlen ⊢
       omega
      refine(HIH.out x hsz w0 b _ A3 c3 W3 (IsWr.far (.inr HWR.out) hn3) HG3.out (wfL_at HW.out HX.out) hle (HBE.out.trans (hn3.mono HBE.out.size))).mono ?_
      rintro e W4 ⟨rfl,hw4,hb4,hm4⟩
      have hp4:PutAt w0 b bs w w.heap.size #[] l (i+1) W4:=⟨hil,by
       rw[hxl,encL_snoc,← List.append_assoc,byteCells_append,← List.append_assoc];exact hw4,hb4,(HMO.out.trans (ModW.of_below hn3)).trans hm4⟩
      have HP4:=Lib.hid hp4
      clear hw4 hb4 hm4 hp4 hxl hle hsz
      go_wp2_with fail
      go_roundw
      case rel=>exact⟨i+1,by go_num,HP4.out⟩
      case measure=>simp[intOf];omega
     ·have hie:i=l.length:=by omega
      have hfin:Wr w0.heap.size b (.pointer (some ⟨b,0,none⟩)) (bs++Lib.byteCells (headB 4 l.length++encL l)) wr:=by
       have:=HWR.out;rw[hie,List.take_length]at this;exact this
      have HF:=Lib.hid hfin
      clear hfin hie
      go_wp2_with fail
      go_end0
      exact⟨rfl,HF.out,HBE.out,HMO.out⟩
end Go.Proofs.YtlmabbigfdbmbaaGreatDoor.PShelfNil
namespace Go.Proofs.YtlmabbigfdbmbaaGreatDoor.PShelfNil
open Go.RowKit Go.Proofs.YtlmabbigfdbmbaaGreatDoorW.PrintWords Go.Proofs.YtlmabbigfdbmbaaGreatDoorW.PrintLast Go.Proofs.YtlmabbigfdbmbaaGreatDoorW.PrintMore
theorem wf_int{n:Int}(h:(Lit.int .i64 n).wf=true) : -9223372036854775808≤n∧n≤9223372036854775807:=by
 simp only[Lit.wf,Bool.and_eq_true,decide_eq_true_eq]at h
 exact⟨Int.le_trans (by decide) h.1,Int.le_trans h.2 (by decide)⟩
theorem S32.ind{P:S32→Prop}(h:∀ x:S32,(∀ y∈x.f3,P y)→P x)(x:S32):P x:=by
 have:∀ m,∀ x:S32,SizeOf.sizeOf x < m→P x:=by
  intro m
  induction m with
  | zero=>intro x hx;omega
  | succ m ih=>
   intro x hx
   refine h x (fun y hy=>ih y ?_)
   obtain⟨k,n,s,l⟩:=x
   have:=List.sizeOf_lt_of_mem hy
   simp at hx this ⊢;omega
 exact this _ x (Nat.lt_succ_self _)
theorem wfS_parts{x:S32}(h:wfS x) : -9223372036854775808≤x.f1∧x.f1≤9223372036854775807∧x.f2.size≤140737488355328∧x.f3.length≤140737488355328∧wfL x.f3:=by
 obtain⟨k,n,s,l⟩:=x
 rw[wfS]at h;exact h
theorem wfL_mem{l:List S32}(h:wfL l){y:S32}(hy:y∈l):wfS y:=by
 obtain⟨i,hi⟩:=List.getElem?_of_mem hy
 exact wfL_at h hi
theorem toList_nil_iff(s:ByteArray):s.toList = []↔s.size=0:=by
 rw[Lib.toList_data,Lib.size_eq];exact List.length_eq_zero_iff.symm
theorem wfL_of:∀ {l:List S32},(∀ y∈l,wfS y)→wfL l
 | [],_=>by rw[wfL];trivial
 | x :: xs,h=>by rw[wfL];exact⟨h x List.mem_cons_self,wfL_of (fun y hy=>h y (List.mem_cons_of_mem _ hy))⟩
def okS:Nat→S32→Bool
 | 0,_=>false
 | d+1,⟨k,n,s,l⟩=>if k=1 then decide (s.size=0) && decide (l.length=0)else if k=2 then decide (n=0) && (decide (l.length=0) && decide (s.size≤65535))else if k=3 then decide (n=0) && (decide (s.size=0) && (decide (l.length≤4095) && l.all (okS d)))else false
end Go.Proofs.YtlmabbigfdbmbaaGreatDoor.PShelfNil
namespace Go.Proofs.YtlmabbigfdbmbaaGreatDoor.PShelfNil
open Go.RowKit Go.Proofs.YtlmabbigfdbmbaaGreatDoorW.PrintWords Go.Proofs.YtlmabbigfdbmbaaGreatDoorW.PrintLast Go.Proofs.YtlmabbigfdbmbaaGreatDoorW.PrintMore
mutual
def parts:S32→Nat
 | ⟨_,_,s,l⟩=>1+s.size / 100+partsL l
def partsL:List S32→Nat
 | []=>0
 | x :: xs=>parts x+partsL xs
end
mutual
def deepS:S32→Nat
 | ⟨_,_,_,l⟩=>deepL l+1
def deepL:List S32→Nat
 | []=>0
 | x :: xs=>max (deepS x) (deepL xs)
end
theorem parts_eq(x:S32):parts x=1+x.f2.size / 100+partsL x.f3:=by cases x;rw[parts]
theorem partsL_mem{l:List S32}{y:S32}(h:y∈l):parts y≤partsL l:=by
 induction l with
 | nil=>simp at h
 | cons x xs ih=>
  rw[partsL]
  rcases List.mem_cons.1 h with rfl | h
  ·omega
  ·have:=ih h;omega
theorem partsL_len(l:List S32):l.length≤partsL l:=by
 induction l with
 | nil=>simp
 | cons x xs ih=>rw[partsL,List.length_cons,parts_eq];omega
def EncLe(x:S32):Prop:=wfS x→(encS x).length≤109 * parts x
theorem encL_le{l:List S32}(ih:∀ y∈l,EncLe y)(hw:wfL l):(encL l).length≤109 * partsL l∧l.length≤partsL l:=by
 induction l with
 | nil=>rw[encL,partsL];simp
 | cons x xs ihx=>
  rw[wfL]at hw
  obtain⟨e1,e2⟩:=ihx (fun y hy=>ih y (List.mem_cons_of_mem _ hy)) hw.2
  have e3:=ih x (List.mem_cons_self) hw.1
  have e4:1≤parts x:=by rw[parts_eq];omega
  rw[encL,partsL,List.length_append,List.length_cons]
  omega
theorem enc_le(x:S32):EncLe x:=by
 refine S32.ind (P:=EncLe) (fun x ih=>?_) x
 intro hx
 obtain⟨hn0,hn1,hs,hl,hw⟩:=wfS_parts hx
 obtain⟨e1,e2⟩:=encL_le ih hw
 rw[parts_eq]
 obtain⟨k,n,s,l⟩:=x
 simp only at *
 rw[encS]
 have hb:∀ k m,m < 18446744073709551616→(headB k m).length≤9:=headB_len
 split
 ·split
  ·have:=hb 2 (-(n+1)).toNat (by omega);omega
  ·have:=hb 1 n.toNat (by omega);omega
 ·split
  ·have:=hb 3 s.size (by omega)
   rw[List.length_append,← Lib.size_eq];omega
  ·have:=hb 4 l.length (by omega)
   rw[List.length_append];omega
def checkR(x:S32):Int:=if okS 16 x then 0 else 2
end Go.Proofs.YtlmabbigfdbmbaaGreatDoor.PShelfNil
namespace Go.Proofs.YtlmabbigfdbmbaaGreatDoor.PShelfNil
open Go.RowKit Go.Proofs.YtlmabbigfdbmbaaGreatDoor.Ord Go.Proofs.YtlmabbigfdbmbaaGreatDoor.Obj Go.Proofs.YtlmabbigfdbmbaaGreatDoorW.PrintWords Go.Proofs.YtlmabbigfdbmbaaGreatDoorW.PrintLast Go.Proofs.YtlmabbigfdbmbaaGreatDoorW.PrintMore
set_option maxHeartbeats 8000000 in
set_option maxRecDepth 100000 in
theorem check_calls:∀ (m:Nat) (x:S32),SizeOf.sizeOf x < m→∀ (d:Nat),d≤16→∀ (A:Option Addr) (c:Nat) (w:World),Kd.C k32 w A x.f3.length x.f3→x.f3.length≤c→
  Calls Tryz.prog 90 #[.agg #[.int .i64 x.f0,.int .i64 x.f1,.string x.f2,.slice A x.f3.length c],.int .i64 (d:Int)] w fun e w'=>e = .returned (.bool (okS d x))∧Below w.heap.size w w'
 | 0,x,h,d,hd,A,c,w,hA,hc=>by omega
 | m+1,x,h,d,hd,A,c,w,hA,hc=>by
  have HIH:=Lib.hid (fun y h' d hd A c w=>check_calls m y h' d hd A c w)
  obtain⟨k,n,s,l⟩:=x
  simp only at hA hc ⊢
  obtain⟨W1,hW1⟩:∃ W1,W1=w.alloc (.cells #[.int .i64 k,.int .i64 n,.string s,.slice A l.length c] 32):=⟨_,rfl⟩
  have hn1:Below w.heap.size w W1:=by rw[hW1];exact(Below.refl _ _).alloc (Nat.le_refl _) _
  have hg1:W1.heap[w.heap.size]? = some (.cells #[.int .i64 k,.int .i64 n,.string s,.slice A l.length c] 32 (0,0)):=by rw[hW1];exact alloc_lastV _ _
  obtain⟨⟨b0,b1,b2,b3⟩,_⟩:=box4 hg1
  have HN1:=Lib.hid hn1
  have HG1:=Lib.hid hg1
  have HA:=Lib.hid (Kd.C_below hA hn1)
  have hmx:=hA.2.1
  rw[hW1]at b0 b1 b2 b3
  have HW1:=Lib.hid hW1
  clear hW1 hn1 hg1 hA
  cases d with
  | zero=>
   go_enter Tryz.func90,Tryz.ntmps90
   go_wp2_with fail
   rw[← HW1.out]
   go_ret
   exact⟨by rw[okS];rfl,HN1.out⟩
  | succ d=>
   have hd0:¬ ((d:Int)+1 < 1):=by omega
   have hs0:(s.toList = [])=(s.size=0):=propext (toList_nil_iff s)
   rw[okS]
   by_cases h1:k=1
   ·subst h1
    rw[if_pos rfl]
    go_enter Tryz.func90,Tryz.ntmps90
    go_wp2_with fail
    all_goals (go_ret;exact⟨by first | rfl | (simp;done) | (simp;omega) | (cases l<;>simp;omega),(Below.refl _ _).alloc (Nat.le_refl _) _⟩)
   have hk1:(k == 1)=false:=by simpa using h1
   rw[if_neg h1]
   by_cases h2:k=2
   ·subst h2
    rw[if_pos rfl]
    go_enter Tryz.func90,Tryz.ntmps90
    go_wp2_with fail
    all_goals (go_ret;exact⟨by first | rfl | (simp;done) | (simp;omega) | (cases l<;>simp;omega),(Below.refl _ _).alloc (Nat.le_refl _) _⟩)
   have hk2:(k == 2)=false:=by simpa using h2
   rw[if_neg h2]
   by_cases h3:k=3
   ·subst h3
    rw[if_pos rfl]
    obtain⟨RV,hRV⟩:∃ RV,RV=(decide (n=0) && (decide (s.size=0) && (decide (l.length≤4095) && l.all (okS d)))):=⟨_,rfl⟩
    rw[← hRV]
    have HRV:=Lib.hid hRV
    clear hRV
    go_enter Tryz.func90,Tryz.ntmps90
    go_wp2_with fail
    rw[← HW1.out]
    clear b0 b1 b2 b3
    go_loopw [44] (fun v wr=>∃ i:Nat,v = .int .i64 (i:Int)∧i≤l.length∧Hid ((l.take i).all (okS d)=true)∧Below W1.heap.size W1 wr) (fun v _=>l.length - (intOf v).toNat)
    case atStart=>exact⟨0,rfl,Nat.zero_le _,Lib.hid rfl,Below.refl _ _⟩
    case round=>
     obtain⟨i,rfl,hi,HALL,hbe⟩:=hrel
     have HBE:=Lib.hid hbe
     by_cases hil:i < l.length
     ·obtain⟨ad,A3,c3,rfl,c0,c1,c2,c3',l3,g3⟩:=at_T32 (Kd.C_below HA.out hbe) (i:Int) (by omega) (by omega)
      obtain⟨x,hx⟩:∃ x,l[i]? = some x:=⟨_,List.getElem?_eq_getElem hil⟩
      have hrd:rd_T32 l (i:Int)=x:=by unfold rd_T32;rw[Int.toNat_natCast,List.getD_eq_getElem?_getD,hx];rfl
      rw[hrd]at c0 c1 c2 c3' l3 g3
      rw[Int.toNat_natCast]at c0 c1 c2 c3'
      have hsz:SizeOf.sizeOf x < m:=by
       have:=List.sizeOf_lt_of_mem (List.mem_of_getElem? hx)
       simp at h;omega
      obtain⟨W3,hW3⟩:∃ W3,W3=wr.alloc (.cells #[.int .i64 x.f0,.int .i64 x.f1,.string x.f2,.slice A3 x.f3.length c3] 32):=⟨_,rfl⟩
      have hn3:Below wr.heap.size wr W3:=by rw[hW3];exact(Below.refl _ _).alloc (Nat.le_refl _) _
      have hg3:W3.heap[wr.heap.size]? = some (.cells #[.int .i64 x.f0,.int .i64 x.f1,.string x.f2,.slice A3 x.f3.length c3] 32 (0,0)):=by rw[hW3];exact alloc_lastV _ _
      have HCALL:=Lib.hid (HIH.out x hsz d (by omega) A3 c3 W3 (Kd.C_below g3 hn3) l3)
      have HN3:=Lib.hid hn3
      have hst:(l.take (i+1)).all (okS d)=okS d x:=by rw[List.take_add_one,hx,Option.toList_some,List.all_append,HALL.out,Bool.true_and,List.all_cons,List.all_nil,Bool.and_true]
      have HST:=Lib.hid hst
      have HX:=Lib.hid hx
      obtain⟨⟨d0,d1,d2,d3⟩,_⟩:=box4 hg3
      rw[hW3]at d0 d1 d2 d3
      have HW3:=Lib.hid hW3
      clear hbe hrd g3 hx hsz hn3 hg3 hW3 hst
      go_wp2_with fail
      rw[← HW3.out]
      clear d0 d1 d2 d3 c0 c1 c2 c3'
      refine HCALL.out.mono ?_
      rintro e W4 ⟨rfl,hb4⟩
      have HB4:=Lib.hid (HBE.out.trans ((HN3.out.trans (hb4.mono HN3.out.size)).mono HBE.out.size))
      clear hb4
      cases ho:okS d x with
      | true=>
       rw[ho]at HST
       clear ho
       go_wp2_with fail
       go_roundw
       case rel=>exact⟨i+1,by go_num,hil,HST,HB4.out⟩
       case measure=>simp[intOf];omega
      | false=>
       have HF:=Lib.hid (show l.all (okS d)=false by rw[List.all_eq_false];exact⟨x,List.mem_of_getElem? HX.out,by rw[ho];decide⟩)
       clear ho
       go_wp2_with fail
       go_ret
       exact⟨by rw[HRV.out,HF.out];simp,HN1.out.trans (HB4.out.mono HN1.out.size)⟩
     ·have hie:i=l.length:=by omega
      have hall:=HALL.out
      rw[hie,List.take_length]at hall
      have HF:=Lib.hid hall
      obtain⟨⟨b0,b1,b2,b3⟩,_⟩:=box4 ((hbe.block _ (Array.getElem?_eq_some_iff.1 HG1.out).1).trans HG1.out)
      clear hall hie hbe HALL
      go_wp2_with fail
      all_goals (go_ret;exact⟨by rw[HRV.out,HF.out];first | (simp[*];done) | (simp[*];omega),HN1.out.trans (HBE.out.mono HN1.out.size)⟩)
   have hk3:(k == 3)=false:=by simpa using h3
   rw[if_neg h3]
   go_enter Tryz.func90,Tryz.ntmps90
   go_wp2_with fail
   rw[← HW1.out]
   go_ret
   exact⟨rfl,HN1.out⟩
set_option maxRecDepth 100000 in
theorem Check_calls(x:S32)(A:Option Addr)(c:Nat)(w:World)(hA:Kd.C k32 w A x.f3.length x.f3)(hc:x.f3.length≤c) :
  Calls Tryz.prog 60 #[.agg #[.int .i64 x.f0,.int .i64 x.f1,.string x.f2,.slice A x.f3.length c]] w fun e w'=>e = .returned (.int .i64 (checkR x))∧Below w.heap.size w w':=by
 obtain⟨W1,hW1⟩:∃ W1,W1=w.alloc (.cells #[.int .i64 x.f0,.int .i64 x.f1,.string x.f2,.slice A x.f3.length c] 32):=⟨_,rfl⟩
 have hn1:Below w.heap.size w W1:=by rw[hW1];exact(Below.refl _ _).alloc (Nat.le_refl _) _
 have hg1:W1.heap[w.heap.size]? = some (.cells #[.int .i64 x.f0,.int .i64 x.f1,.string x.f2,.slice A x.f3.length c] 32 (0,0)):=by rw[hW1];exact alloc_lastV _ _
 obtain⟨⟨b0,b1,b2,b3⟩,_⟩:=box4 hg1
 have HC:=Lib.hid (check_calls _ x (Nat.lt_succ_self _) 16 (Nat.le_refl _) A c W1 (Kd.C_below hA hn1) hc)
 have HN1:=Lib.hid hn1
 rw[hW1]at b0 b1 b2 b3
 have HW1:=Lib.hid hW1
 clear hW1 hn1 hg1 hA
 unfold checkR
 generalize okS 16 x=r at HC
 go_enter Tryz.func60,Tryz.ntmps60
 go_wp2_with fail
 rw[← HW1.out]
 clear b0 b1 b2 b3
 refine HC.out.mono ?_
 rintro e W2 ⟨rfl,hb2⟩
 have HF:=Lib.hid (HN1.out.trans (hb2.mono HN1.out.size))
 clear hb2
 cases r
 all_goals
  go_wp2_with fail
  go_ret
  exact⟨rfl,HF.out⟩
end Go.Proofs.YtlmabbigfdbmbaaGreatDoor.PShelfNil
namespace Go.Proofs.YtlmabbigfdbmbaaGreatDoor.PShelfNil
open Go.RowKit Go.Proofs.YtlmabbigfdbmbaaGreatDoor.Ord Go.Proofs.YtlmabbigfdbmbaaGreatDoor.Obj Go.Proofs.YtlmabbigfdbmbaaGreatDoorW.PrintWords Go.Proofs.YtlmabbigfdbmbaaGreatDoorW.PrintLast Go.Proofs.YtlmabbigfdbmbaaGreatDoorW.PrintMore
def putB(r:Int)(x:S32):List UInt8:=if r=0 then encS x else []
theorem headB_ne(k n:Nat):headB k n≠[]:=by simp[headB]
theorem encS_ne:∀ x:S32,encS x≠[]
 | ⟨k,n,s,l⟩=>by
  rw[encS]
  split
  ·split<;>exact headB_ne _ _
  ·split<;>simp[headB]
set_option maxHeartbeats 4000000 in
set_option maxRecDepth 100000 in
theorem Put_calls(x:S32)(A:Option Addr)(c:Nat)(r:Int)(w:World)(hA:Kd.C k32 w A x.f3.length x.f3)(hc:x.f3.length≤c)(hx:wfS x)(hr:checkR x=r)
  (hlen:r=0→(encS x).length+16≤140737488355328) :
  Calls Tryz.prog 80 #[.agg #[.int .i64 x.f0,.int .i64 x.f1,.string x.f2,.slice A x.f3.length c]] w fun e w'=>e = .returned (.tuple #[.string ⟨(putB r x).toArray⟩,.int .i64 r])∧Below w.heap.size w w':=by
 have HA:=Lib.hid hA
 have HL:=Lib.hid hlen
 obtain⟨W1,hW1⟩:∃ W1,W1=w.alloc (.cells #[.int .i64 x.f0,.int .i64 x.f1,.string x.f2,.slice A x.f3.length c] 32):=⟨_,rfl⟩
 have hn1:Below w.heap.size w W1:=by rw[hW1];exact(Below.refl _ _).alloc (Nat.le_refl _) _
 have hg1:W1.heap[w.heap.size]? = some (.cells #[.int .i64 x.f0,.int .i64 x.f1,.string x.f2,.slice A x.f3.length c] 32 (0,0)):=by rw[hW1];exact heap_alloc_last _ _
 have hgs:w.heap.size < W1.heap.size:=(Array.getElem?_eq_some_iff.1 hg1).1
 subst hr
 have HC:=Lib.hid (Check_calls x A c W1 (Kd.C_below hA hn1) hc)
 generalize checkR x=r at hlen HL HC ⊢
 have HW1:=Lib.hid hW1
 have HG1:=Lib.hid hg1
 have HN1:=Lib.hid hn1
 clear hA hlen hW1 hg1 hn1
 go_enter Tryz.func80,Tryz.ntmps80
 go_wp2_with fail
 rw[← HW1.out]
 have c0:W1.cell? ⟨w.heap.size,0,none⟩=some (.int .i64 x.f0):=by rw[Lib.cell_of_heap HG1.out];rfl
 have c1:W1.cell? ⟨w.heap.size,1,none⟩=some (.int .i64 x.f1):=by rw[Lib.cell_of_heap HG1.out];rfl
 have c2:W1.cell? ⟨w.heap.size,2,none⟩=some (.string x.f2):=by rw[Lib.cell_of_heap HG1.out];rfl
 have c3:W1.cell? ⟨w.heap.size,3,none⟩=some (.slice A x.f3.length c):=by rw[Lib.cell_of_heap HG1.out];rfl
 clear c0 c1 c2 c3
 refine HC.out.mono ?_
 rintro e W2 ⟨rfl,hb2⟩
 have hB2:=HN1.out.trans (hb2.mono (Nat.le_of_lt hgs))
 have hg2:=(hb2.block _ hgs).trans HG1.out
 by_cases hr0:r=0
 ·subst hr0
  obtain⟨W3,hW3⟩:∃ W3,W3=W2.alloc (.cells #[.pointer none,.slice none 0 0] 204):=⟨_,rfl⟩
  have hn3:Below W2.heap.size W2 W3:=by rw[hW3];exact(Below.refl _ _).alloc (Nat.le_refl _) _
  have hi3:IsWr W2.heap.size W2.heap.size [] W3:=by rw[hW3];exact Lib.fresh_isBuilder _ _ _
  have hs2:=(Array.getElem?_eq_some_iff.1 hg2).1
  have hg3:=(hn3.block _ hs2).trans hg2
  have d0:(W2.alloc (.cells #[.pointer none,.slice none 0 0] 204)).cell? ⟨w.heap.size,0,none⟩=some (.int .i64 x.f0):=by rw[← hW3,Lib.cell_of_heap hg3];rfl
  have d1:(W2.alloc (.cells #[.pointer none,.slice none 0 0] 204)).cell? ⟨w.heap.size,1,none⟩=some (.int .i64 x.f1):=by rw[← hW3,Lib.cell_of_heap hg3];rfl
  have d2:(W2.alloc (.cells #[.pointer none,.slice none 0 0] 204)).cell? ⟨w.heap.size,2,none⟩=some (.string x.f2):=by rw[← hW3,Lib.cell_of_heap hg3];rfl
  have d3:(W2.alloc (.cells #[.pointer none,.slice none 0 0] 204)).cell? ⟨w.heap.size,3,none⟩=some (.slice A x.f3.length c):=by rw[← hW3,Lib.cell_of_heap hg3];rfl
  have hput:=put_calls (SizeOf.sizeOf x+1) x (Nat.lt_succ_self _) W2 W2.heap.size [] A c W3 hi3 (Kd.C_below HA.out hB2) hx (by have:=HL.out rfl;simpa using this) hn3
  have HP:=Lib.hid hput
  have HB2:=Lib.hid hB2
  have HW3:=Lib.hid hW3
  clear hput hB2 hb2 hg2 hg3 hs2 hn3 hi3
  go_wp2_with fail
  rw[← HW3.out]
  clear d0 d1 d2 d3
  refine HP.out.mono ?_
  rintro e W4 ⟨rfl,hw4,hb4,hm4⟩
  have hst:=builderString W2.heap.size W2.heap.size (encS x) W4 (.inr (by simpa using hw4)) (encS_ne x)
  have HS:=Lib.hid hst
  have HB4:=Lib.hid hb4
  clear hw4 hm4 hst hb4
  go_wp2_with fail
  refine HS.out.mono ?_
  rintro e W5 ⟨rfl,hb5⟩
  have hfin:=HB2.out.trans ((HB4.out.trans hb5).mono HB2.out.size)
  go_wp2_with fail
  go_ret2
  exact⟨rfl,hfin⟩
 ·have HB2:=Lib.hid hB2
  clear hB2 hb2 hg2 HG1
  go_wp2_with fail
  go_ret2
  exact⟨by rw[show putB r x = []by unfold putB;rw[if_neg hr0]];rfl,HB2.out⟩
end Go.Proofs.YtlmabbigfdbmbaaGreatDoor.PShelfNil
namespace Go.Proofs.YtlmabbigfdbmbaaGreatDoor.PShelfNil
open Go.RowKit Go.Proofs.YtlmabbigfdbmbaaGreatDoorW.PrintWords Go.Proofs.YtlmabbigfdbmbaaGreatDoorW.PrintLast Go.Proofs.YtlmabbigfdbmbaaGreatDoorW.PrintMore
def wrongP(p e:Int):List PanicEntry:=[{ v:=.iface 254 (.agg #[.int .i64 p,.int .i64 e]),recovered:=false }]
set_option maxRecDepth 100000 in
theorem need_ok(p e:Int)(w:World):Calls Tryz.prog 183 #[.bool true,.int .i64 p,.int .i64 e] w fun en w'=>en = .returned (.tuple #[])∧w'=w:=by
 go_enter Tryz.func183,Tryz.ntmps183
 go_wp2
 go_end0
 exact⟨rfl,rfl⟩
set_option maxRecDepth 100000 in
theorem need_no(p e:Int)(w:World):Calls Tryz.prog 183 #[.bool false,.int .i64 p,.int .i64 e] w fun en w'=>en = .panicked (wrongP p e)∧w'=w:=by
 go_enter Tryz.func183,Tryz.ntmps183
 go_wp2
 exact⟨rfl,rfl,rfl⟩
def firstV(b:Nat):Value:=
 if b / 16=1 then .iface 285 (.agg #[.bool false])else if b / 16=2 then .iface 285 (.agg #[.bool true])else if b / 16=3 then .iface 287 (.agg #[])else if b / 16=4 then .iface 306 (.agg #[])else .nilIface
set_option maxRecDepth 100000 in
theorem first_calls(b:Nat)(w:World)(hb:b < 256):Calls Tryz.prog 182 #[.int .u8 (b:Int)] w fun en w'=>en = .returned (firstV b)∧w'=w:=by
 unfold firstV
 by_cases h1:b / 16=1
 ·rw[if_pos h1]
  go_enter Tryz.func182,Tryz.ntmps182
  go_wp2
  go_ret
  exact⟨rfl,rfl⟩
 ·rw[if_neg h1]
  have e1:((b:Int) / 16 == 1)=false:=by rw[beq_eq_false_iff_ne];omega
  by_cases h2:b / 16=2
  ·rw[if_pos h2]
   have e2:((b:Int) / 16 == 2)=true:=by rw[beq_iff_eq];omega
   go_enter Tryz.func182,Tryz.ntmps182
   go_wp2
   go_ret
   exact⟨rfl,rfl⟩
  ·rw[if_neg h2]
   have e2:((b:Int) / 16 == 2)=false:=by rw[beq_eq_false_iff_ne];omega
   by_cases h3:b / 16=3
   ·rw[if_pos h3]
    have e3:((b:Int) / 16 == 3)=true:=by rw[beq_iff_eq];omega
    go_enter Tryz.func182,Tryz.ntmps182
    go_wp2
    go_ret
    exact⟨rfl,rfl⟩
   ·rw[if_neg h3]
    have e3:((b:Int) / 16 == 3)=false:=by rw[beq_eq_false_iff_ne];omega
    by_cases h4:b / 16=4
    ·rw[if_pos h4]
     have e4:((b:Int) / 16 == 4)=true:=by rw[beq_iff_eq];omega
     go_enter Tryz.func182,Tryz.ntmps182
     go_wp2
     go_ret
     exact⟨rfl,rfl⟩
    ·rw[if_neg h4]
     have e4:((b:Int) / 16 == 4)=false:=by rw[beq_eq_false_iff_ne];omega
     go_enter Tryz.func182,Tryz.ntmps182
     go_wp2
     go_ret
     exact⟨rfl,rfl⟩
set_option maxRecDepth 100000 in
theorem most_number(v:Bool)(w:World):Calls Tryz.prog 264 #[.agg #[.bool v]] w fun en w'=>en = .returned (.tuple #[.int .i64 8,.int .u64 9223372036854775807])∧Below w.heap.size w w':=by
 go_enter Tryz.func264,Tryz.ntmps264
 go_wp2
 go_ret2
 exact⟨rfl,(Below.refl _ _).alloc (Nat.le_refl _) _⟩
set_option maxRecDepth 100000 in
theorem most_word(w:World):Calls Tryz.prog 265 #[.agg #[]] w fun en w'=>en = .returned (.tuple #[.int .i64 2,.int .u64 65535])∧Below w.heap.size w w':=by
 go_enter Tryz.func265,Tryz.ntmps265
 go_wp2
 go_ret2
 exact⟨rfl,(Below.refl _ _).alloc (Nat.le_refl _) _⟩
set_option maxRecDepth 100000 in
theorem most_row(w:World):Calls Tryz.prog 266 #[.agg #[]] w fun en w'=>en = .returned (.tuple #[.int .i64 2,.int .u64 4095])∧Below w.heap.size w w':=by
 go_enter Tryz.func266,Tryz.ntmps266
 go_wp2
 go_ret2
 exact⟨rfl,(Below.refl _ _).alloc (Nat.le_refl _) _⟩
end Go.Proofs.YtlmabbigfdbmbaaGreatDoor.PShelfNil
namespace Go.Proofs.YtlmabbigfdbmbaaGreatDoor.PShelfNil
open Go.RowKit Go.Proofs.YtlmabbigfdbmbaaGreatDoor.Ord Go.Proofs.YtlmabbigfdbmbaaGreatDoorW.PrintWords Go.Proofs.YtlmabbigfdbmbaaGreatDoorW.PrintLast Go.Proofs.YtlmabbigfdbmbaaGreatDoorW.PrintMore
attribute [local irreducible] OpGives
attribute [local go_sem] rdl_const rdl_func rdl_global rdl_nil rdl_cons
structure ModB(b:Nat)(w w':World):Prop where
 os:w'.os=w.os
 tape:w'.tape=w.tape
 output:w'.output=w.output
 size:w.heap.size≤w'.heap.size
 block:∀ k,k < w.heap.size→k≠b→w'.heap[k]? = w.heap[k]?
theorem ModB.refl(b:Nat)(w:World):ModB b w w:=⟨rfl,rfl,rfl,Nat.le_refl _,fun _ _ _=>rfl⟩
theorem ModB.trans{b:Nat}{w w1 w2:World}(h:ModB b w w1)(k:ModB b w1 w2):ModB b w w2:=
 ⟨k.os.trans h.os,k.tape.trans h.tape,k.output.trans h.output,Nat.le_trans h.size k.size,fun i hi hb=>(k.block i (Nat.lt_of_lt_of_le hi h.size) hb).trans (h.block i hi hb)⟩
theorem ModB.of_below{b:Nat}{w w':World}(h:Below w.heap.size w w'):ModB b w w':=⟨h.os,h.tape,h.output,h.size,fun k hk _=>h.block k hk⟩
theorem ModB.below{b B:Nat}{w w':World}(h:ModB b w w')(hB:B≤w.heap.size)(hb:B≤b):Below B w w':=⟨h.os,h.tape,h.output,h.size,fun k hk=>h.block k (by omega) (by omega)⟩
theorem ModB.setCell(b:Nat)(w:World)(j:Nat)(v:Value):ModB b w (w.setCell ⟨b,j,none⟩ v):=
 ⟨rfl,rfl,rfl,by simp[World.setCell],fun k _ hb=>Below.heap_setCell _ _ _ _ hb⟩
theorem ModB.drew{b:Nat}{w w':World}(h:ModB b w w'):ModB b w w'.drew:=⟨h.os,h.tape,h.output,h.size,h.block⟩
def RdAt(b:Nat)(s:ByteArray)(p:Nat)(w:World):Prop:=w.heap[b]? = some (.cells #[.string s,.int .i64 (p:Int)] 257 (0,0))
theorem wpOp_panics{P:Program}{ops:Array Oper}{Q:Exit→Act→World→Prop}{i:Nat}{o:Oper}{K:Act→World→Prop}{a:Act}{w w':World}{f:FuncId}{args:Array Value}(hi:ops[i]? = some o)(hg:o.guard=none)
  (hrun:(execOp a.eval o).run P w = .ok (.enter f args) w') (h:Calls P f args w' fun e w''=>∃ ch,e = .panicked ch∧Q (.panic ch) a w''):wpOp P ops Q i K a w:=by
 unfold wpOp;rw[hi];simp only[Region.wanted,hg,if_true]
 refine .inl ?_
 unfold Oper.wp;rw[hrun]
 exact h.mono fun e w'' ⟨v,he,hk⟩=>by subst he;exact hk
theorem RdAt.kept{b:Nat}{s:ByteArray}{p:Nat}{w w':World}(h:RdAt b s p w)(hb:Below w.heap.size w w'):RdAt b s p w':=
 (hb.block b (Array.getElem?_eq_some_iff.1 h).1).trans h
set_option maxHeartbeats 8000000 in
set_option maxRecDepth 100000 in
theorem bytes_ok(b:Nat)(s:ByteArray)(p n:Nat)(w:World)(h:RdAt b s p w)(hs:s.size≤140737488355328)(hp:p+n≤s.size) :
  Calls Tryz.prog 181 #[.pointer (some ⟨b,0,none⟩),.int .i64 (n:Int)] w fun e w'=>e = .returned (.string (s.extract p (p+n)))∧RdAt b s (p+n) w'∧ModB b w w':=by
 have c0:w.cell? ⟨b,0,none⟩=some (.string s):=by rw[Lib.cell_of_heap h];rfl
 have c1:w.cell? ⟨b,1,none⟩=some (.int .i64 (p:Int)):=by rw[Lib.cell_of_heap h];rfl
 have f1:w.frozen? ⟨b,1,none⟩=false:=Lib.frozen_of_heap h 1
 have hge:(n:Int)≤(s.size:Int) - (p:Int):=by omega
 have H:=Lib.hid h
 clear h
 go_enter Tryz.func181,Tryz.ntmps181
 go_wp2_with fail
 refine' wp_region_factsT (S:=(fun W=>W=w.drew)) (R:=(fun a b=>a=b)) [eqF _ _,eqF _ _,eqF _ _,eqF _ (.string s),eqF _ _,eqF _ _,eqF _ _,eqF _ _,eqF _ (.int .i64 (p:Int)),eqF _ (.int .i64 ((s.size:Int) - (p:Int))),eqF _ _,eqF _ (.bool true),eqF _ _,eqF _ _,eqF _ _,eqF _ (.string s),eqF _ _] (by kernel_rfl) (by kernel_rfl) ?hS ?h0 (Ord.steps_cons ?s0 (Ord.steps_cons ?s1 (Ord.steps_cons ?s2 (Ord.steps_cons ?s3 (Ord.steps_cons ?s4 (Ord.steps_cons ?s5 (Ord.steps_cons ?s6 (Ord.steps_cons ?s7 (Ord.steps_cons ?s8 (Ord.steps_cons ?s9 (Ord.steps_cons ?s10 (Ord.steps_cons ?s11 (Ord.steps_cons ?s12 (Ord.steps_cons ?s13 (Ord.steps_cons ?s14 (Ord.steps_cons ?s15 (Ord.steps_cons ?s16 (Ord.steps_nil)))))))))))))))))) ?fin
 case s0=>
  intro g W hSW hd
  try simp only[Nat.zero_add,Nat.reduceAdd]at hd ⊢
  with_reducible refine OpGives.pre_reads [] 46 ?_ ?_ ?_
  ·rfl
  ·kernel_rfl
  simp only[List.map_cons,List.map_nil]
  refine OpGives.val (w':=W) ?_ ⟨rfl,rfl⟩
  go_simp
  try with_reducible rfl
 case s1=>
  intro g W hSW hd
  try simp only[Nat.zero_add,Nat.reduceAdd]at hd ⊢
  have h0:g 0=_:=hd 0 (by decide) (by kernel_rfl)
  with_reducible refine OpGives.pre_reads [(5,0)] 46 ?_ ?_ ?_
  ·rfl
  ·kernel_rfl
  simp only[List.map_cons,List.map_nil]
  refine OpGives.val (w':=W) ?_ ⟨rfl,rfl⟩
  go_simp
  try with_reducible rfl
 case s2=>
  intro g W hSW hd
  try simp only[Nat.zero_add,Nat.reduceAdd]at hd ⊢
  have h1:g 1=_:=hd 1 (by decide) (by kernel_rfl)
  with_reducible refine OpGives.pre_reads [(6,1)] 46 ?_ ?_ ?_
  ·rfl
  ·kernel_rfl
  simp only[List.map_cons,List.map_nil]
  refine OpGives.val (w':=W) ?_ ⟨rfl,rfl⟩
  go_simp
  try with_reducible rfl
 case s3=>
  intro g W hSW hd
  try simp only[Nat.zero_add,Nat.reduceAdd]at hd ⊢
  have h2:g 2=_:=hd 2 (by decide) (by kernel_rfl)
  with_reducible refine OpGives.pre_reads [(7,2)] 46 ?_ ?_ ?_
  ·rfl
  ·kernel_rfl
  simp only[List.map_cons,List.map_nil]
  subst hSW;refine OpGives.val (v:=.string s) (w':=w.drew) ?_ ⟨rfl,rfl⟩;go_simp
 case s4=>
  intro g W hSW hd
  try simp only[Nat.zero_add,Nat.reduceAdd]at hd ⊢
  have h3:g 3=_:=hd 3 (by decide) (by kernel_rfl)
  with_reducible refine OpGives.pre_reads [(8,3)] 46 ?_ ?_ ?_
  ·rfl
  ·kernel_rfl
  simp only[List.map_cons,List.map_nil]
  refine OpGives.val (w':=W) ?_ ⟨rfl,rfl⟩
  go_simp
  try with_reducible rfl
 case s5=>
  intro g W hSW hd
  try simp only[Nat.zero_add,Nat.reduceAdd]at hd ⊢
  with_reducible refine OpGives.pre_reads [] 46 ?_ ?_ ?_
  ·rfl
  ·kernel_rfl
  simp only[List.map_cons,List.map_nil]
  refine OpGives.val (w':=W) ?_ ⟨rfl,rfl⟩
  go_simp
  try with_reducible rfl
 case s6=>
  intro g W hSW hd
  try simp only[Nat.zero_add,Nat.reduceAdd]at hd ⊢
  have h5:g 5=_:=hd 5 (by decide) (by kernel_rfl)
  with_reducible refine OpGives.pre_reads [(10,5)] 46 ?_ ?_ ?_
  ·rfl
  ·kernel_rfl
  simp only[List.map_cons,List.map_nil]
  refine OpGives.val (w':=W) ?_ ⟨rfl,rfl⟩
  go_simp
  try with_reducible rfl
 case s7=>
  intro g W hSW hd
  try simp only[Nat.zero_add,Nat.reduceAdd]at hd ⊢
  have h6:g 6=_:=hd 6 (by decide) (by kernel_rfl)
  with_reducible refine OpGives.pre_reads [(11,6)] 46 ?_ ?_ ?_
  ·rfl
  ·kernel_rfl
  simp only[List.map_cons,List.map_nil]
  refine OpGives.val (w':=W) ?_ ⟨rfl,rfl⟩
  go_simp
  try with_reducible rfl
 case s8=>
  intro g W hSW hd
  try simp only[Nat.zero_add,Nat.reduceAdd]at hd ⊢
  have h7:g 7=_:=hd 7 (by decide) (by kernel_rfl)
  with_reducible refine OpGives.pre_reads [(12,7)] 46 ?_ ?_ ?_
  ·rfl
  ·kernel_rfl
  simp only[List.map_cons,List.map_nil]
  subst hSW;refine OpGives.val (v:=.int .i64 (p:Int)) (w':=w.drew) ?_ ⟨rfl,rfl⟩;go_simp
 case s9=>
  intro g W hSW hd
  try simp only[Nat.zero_add,Nat.reduceAdd]at hd ⊢
  have h4:g 4=_:=hd 4 (by decide) (by kernel_rfl)
  have h8:g 8=_:=hd 8 (by decide) (by kernel_rfl)
  with_reducible refine OpGives.pre_reads [(9,4),(13,8)] 46 ?_ ?_ ?_
  ·rfl
  ·kernel_rfl
  simp only[List.map_cons,List.map_nil]
  subst hSW;refine OpGives.val (v:=.int .i64 ((s.size:Int) - (p:Int))) (w':=w.drew) ?_ ⟨rfl,rfl⟩;go_simp;rw[IntKind.wrap_i64];omega
 case s10=>
  intro g W hSW hd
  try simp only[Nat.zero_add,Nat.reduceAdd]at hd ⊢
  with_reducible refine OpGives.pre_reads [] 46 ?_ ?_ ?_
  ·rfl
  ·kernel_rfl
  simp only[List.map_cons,List.map_nil]
  refine OpGives.val (w':=W) ?_ ⟨rfl,rfl⟩
  go_simp
  try with_reducible rfl
 case s11=>
  intro g W hSW hd
  try simp only[Nat.zero_add,Nat.reduceAdd]at hd ⊢
  have h9:g 9=_:=hd 9 (by decide) (by kernel_rfl)
  have h10:g 10=_:=hd 10 (by decide) (by kernel_rfl)
  with_reducible refine OpGives.pre_reads [(14,9),(15,10)] 46 ?_ ?_ ?_
  ·rfl
  ·kernel_rfl
  simp only[List.map_cons,List.map_nil]
  subst hSW;refine OpGives.val (v:=.bool true) (w':=w.drew) ?_ ⟨rfl,rfl⟩;go_simp
 case s12=>
  intro g W hSW hd
  try simp only[Nat.zero_add,Nat.reduceAdd]at hd ⊢
  with_reducible refine OpGives.pre_reads [] 46 ?_ ?_ ?_
  ·rfl
  ·kernel_rfl
  simp only[List.map_cons,List.map_nil]
  refine OpGives.val (w':=W) ?_ ⟨rfl,rfl⟩
  go_simp
  try with_reducible rfl
 case s13=>
  intro g W hSW hd
  try simp only[Nat.zero_add,Nat.reduceAdd]at hd ⊢
  have h12:g 12=_:=hd 12 (by decide) (by kernel_rfl)
  with_reducible refine OpGives.pre_reads [(17,12)] 46 ?_ ?_ ?_
  ·rfl
  ·kernel_rfl
  simp only[List.map_cons,List.map_nil]
  refine OpGives.val (w':=W) ?_ ⟨rfl,rfl⟩
  go_simp
  try with_reducible rfl
 case s14=>
  intro g W hSW hd
  try simp only[Nat.zero_add,Nat.reduceAdd]at hd ⊢
  have h13:g 13=_:=hd 13 (by decide) (by kernel_rfl)
  with_reducible refine OpGives.pre_reads [(18,13)] 46 ?_ ?_ ?_
  ·rfl
  ·kernel_rfl
  simp only[List.map_cons,List.map_nil]
  refine OpGives.val (w':=W) ?_ ⟨rfl,rfl⟩
  go_simp
  try with_reducible rfl
 case s15=>
  intro g W hSW hd
  try simp only[Nat.zero_add,Nat.reduceAdd]at hd ⊢
  have h14:g 14=_:=hd 14 (by decide) (by kernel_rfl)
  with_reducible refine OpGives.pre_reads [(19,14)] 46 ?_ ?_ ?_
  ·rfl
  ·kernel_rfl
  simp only[List.map_cons,List.map_nil]
  subst hSW;refine OpGives.val (v:=.string s) (w':=w.drew) ?_ ⟨rfl,rfl⟩;go_simp
 case s16=>
  intro g W hSW hd
  try simp only[Nat.zero_add,Nat.reduceAdd]at hd ⊢
  have h15:g 15=_:=hd 15 (by decide) (by kernel_rfl)
  with_reducible refine OpGives.pre_reads [(20,15)] 46 ?_ ?_ ?_
  ·rfl
  ·kernel_rfl
  simp only[List.map_cons,List.map_nil]
  refine OpGives.val (w':=W) ?_ ⟨rfl,rfl⟩
  go_simp
  try with_reducible rfl
 case hS=>rintro a c h rfl;exact h
 case h0=>rfl
 case fin=>
  intro v W hSW hf
  subst hSW
  have h11:v 11=_:=hf 11 (Nat.lt_of_lt_of_eq (by decide:11 < 17) rfl)
  have h16:v 16=_:=hf 16 (Nat.lt_of_lt_of_eq (by decide:16 < 17) rfl)
  clear hf
  generalize hF:Ord.pre _ _ v _=F
  rw[Ord.pre_lit [some 5,some 6,some 7,some 8,some 9,some 10,some 11,some 12,some 13,some 14,some 15,some 16,some 17,some 18,some 19,some 20,some 21]
   (by kernel_rfl)]at hF
  simp only[Ord.puts,Nat.zero_add,Nat.reduceAdd]at hF
  subst hF
  rw[h11,h16]
  clear h11 h16
  refine any_one (i:=17) (by kernel_rfl) ?_
  refine wpOp_call (f:=183) (args:=#[.bool true,.int .i64 (s.size:Int),.int .i64 3]) (w':=w.drew) rfl rfl (by go_simp) ((need_ok _ _ _).mono fun e w'' he=>⟨_,he.1,?_⟩)
  rw[he.2]
  clear he
  refine wpAny_done (by kernel_rfl) ?_ _
  try simp only[List.getElem_toArray,List.getElem_cons_succ,List.getElem_cons_zero]
  go_frame
  have hst:RdAt b s (p+n) (w.drew.setCell ⟨b,1,none⟩ (.int .i64 ((p:Int)+(n:Int)))):=by
   have h1:w.drew.heap[b]? = some (.cells #[.string s,.int .i64 (p:Int)] 257 (0,0)):=H.out
   unfold RdAt
   rw[heap_setCell_same _ _ _ _ _ _ h1]
   simp
  have hm:ModB b w (w.drew.setCell ⟨b,1,none⟩ (.int .i64 ((p:Int)+(n:Int)))):=(ModB.refl b w).drew.trans (ModB.setCell b _ 1 _)
  have HS:=Lib.hid hst
  have HM:=Lib.hid hm
  clear hst hm
  go_wp2_with fail
  obtain⟨W1,hW1⟩:∃ W1,W1=(w.setCell ⟨b,1,none⟩ (.int .i64 ((p:Int)+(n:Int)))).drew:=⟨_,rfl⟩
  rw[← hW1]
  have hs1:RdAt b s (p+n) W1:=by rw[hW1];exact HS.out
  have hm1:ModB b w W1:=by rw[hW1];exact HM.out
  clear HS HM hW1 c0 c1 f1
  have c0:W1.cell? ⟨b,0,none⟩=some (.string s):=by rw[Lib.cell_of_heap hs1];rfl
  have c1:W1.cell? ⟨b,1,none⟩=some (.int .i64 ((p:Int)+(n:Int))):=by rw[Lib.cell_of_heap hs1];simp
  have HS:=Lib.hid hs1
  have HM:=Lib.hid hm1
  clear hs1 hm1
  refine' wp_region_factsT (S:=(fun W=>W=W1.drew)) (R:=(fun a b=>a=b)) [eqF _ _,eqF _ _,eqF _ _,eqF _ (.string s),eqF _ _,eqF _ _,eqF _ _,eqF _ (.int .i64 ((p:Int)+(n:Int))),eqF _ _,eqF _ (.int .i64 (p:Int)),eqF _ _,eqF _ _,eqF _ _,eqF _ (.int .i64 ((p:Int)+(n:Int))),eqF _ (.string (s.extract p (p+n)))] (by kernel_rfl) (by kernel_rfl) ?hS ?h0 (Ord.steps_cons ?s0 (Ord.steps_cons ?s1 (Ord.steps_cons ?s2 (Ord.steps_cons ?s3 (Ord.steps_cons ?s4 (Ord.steps_cons ?s5 (Ord.steps_cons ?s6 (Ord.steps_cons ?s7 (Ord.steps_cons ?s8 (Ord.steps_cons ?s9 (Ord.steps_cons ?s10 (Ord.steps_cons ?s11 (Ord.steps_cons ?s12 (Ord.steps_cons ?s13 (Ord.steps_cons ?s14 (Ord.steps_nil)))))))))))))))) ?fin
  case s0=>
   intro g W hSW hd
   try simp only[Nat.zero_add,Nat.reduceAdd]at hd ⊢
   with_reducible refine OpGives.pre_reads [] 46 ?_ ?_ ?_
   ·rfl
   ·kernel_rfl
   simp only[List.map_cons,List.map_nil]
   refine OpGives.val (w':=W) ?_ ⟨rfl,rfl⟩
   go_simp
   try with_reducible rfl
  case s1=>
   intro g W hSW hd
   try simp only[Nat.zero_add,Nat.reduceAdd]at hd ⊢
   have h0:g 0=_:=hd 0 (by decide) (by kernel_rfl)
   with_reducible refine OpGives.pre_reads [(31,0)] 46 ?_ ?_ ?_
   ·rfl
   ·kernel_rfl
   simp only[List.map_cons,List.map_nil]
   refine OpGives.val (w':=W) ?_ ⟨rfl,rfl⟩
   go_simp
   try with_reducible rfl
  case s2=>
   intro g W hSW hd
   try simp only[Nat.zero_add,Nat.reduceAdd]at hd ⊢
   have h1:g 1=_:=hd 1 (by decide) (by kernel_rfl)
   with_reducible refine OpGives.pre_reads [(32,1)] 46 ?_ ?_ ?_
   ·rfl
   ·kernel_rfl
   simp only[List.map_cons,List.map_nil]
   refine OpGives.val (w':=W) ?_ ⟨rfl,rfl⟩
   go_simp
   try with_reducible rfl
  case s3=>
   intro g W hSW hd
   try simp only[Nat.zero_add,Nat.reduceAdd]at hd ⊢
   have h2:g 2=_:=hd 2 (by decide) (by kernel_rfl)
   with_reducible refine OpGives.pre_reads [(33,2)] 46 ?_ ?_ ?_
   ·rfl
   ·kernel_rfl
   simp only[List.map_cons,List.map_nil]
   subst hSW;refine OpGives.val (v:=.string s) (w':=W1.drew) ?_ ⟨rfl,rfl⟩;go_simp
  case s4=>
   intro g W hSW hd
   try simp only[Nat.zero_add,Nat.reduceAdd]at hd ⊢
   with_reducible refine OpGives.pre_reads [] 46 ?_ ?_ ?_
   ·rfl
   ·kernel_rfl
   simp only[List.map_cons,List.map_nil]
   refine OpGives.val (w':=W) ?_ ⟨rfl,rfl⟩
   go_simp
   try with_reducible rfl
  case s5=>
   intro g W hSW hd
   try simp only[Nat.zero_add,Nat.reduceAdd]at hd ⊢
   have h4:g 4=_:=hd 4 (by decide) (by kernel_rfl)
   with_reducible refine OpGives.pre_reads [(35,4)] 46 ?_ ?_ ?_
   ·rfl
   ·kernel_rfl
   simp only[List.map_cons,List.map_nil]
   refine OpGives.val (w':=W) ?_ ⟨rfl,rfl⟩
   go_simp
   try with_reducible rfl
  case s6=>
   intro g W hSW hd
   try simp only[Nat.zero_add,Nat.reduceAdd]at hd ⊢
   have h5:g 5=_:=hd 5 (by decide) (by kernel_rfl)
   with_reducible refine OpGives.pre_reads [(36,5)] 46 ?_ ?_ ?_
   ·rfl
   ·kernel_rfl
   simp only[List.map_cons,List.map_nil]
   refine OpGives.val (w':=W) ?_ ⟨rfl,rfl⟩
   go_simp
   try with_reducible rfl
  case s7=>
   intro g W hSW hd
   try simp only[Nat.zero_add,Nat.reduceAdd]at hd ⊢
   have h6:g 6=_:=hd 6 (by decide) (by kernel_rfl)
   with_reducible refine OpGives.pre_reads [(37,6)] 46 ?_ ?_ ?_
   ·rfl
   ·kernel_rfl
   simp only[List.map_cons,List.map_nil]
   subst hSW;refine OpGives.val (v:=.int .i64 ((p:Int)+(n:Int))) (w':=W1.drew) ?_ ⟨rfl,rfl⟩;go_simp
  case s8=>
   intro g W hSW hd
   try simp only[Nat.zero_add,Nat.reduceAdd]at hd ⊢
   with_reducible refine OpGives.pre_reads [] 46 ?_ ?_ ?_
   ·rfl
   ·kernel_rfl
   simp only[List.map_cons,List.map_nil]
   refine OpGives.val (w':=W) ?_ ⟨rfl,rfl⟩
   go_simp
   try with_reducible rfl
  case s9=>
   intro g W hSW hd
   try simp only[Nat.zero_add,Nat.reduceAdd]at hd ⊢
   have h7:g 7=_:=hd 7 (by decide) (by kernel_rfl)
   have h8:g 8=_:=hd 8 (by decide) (by kernel_rfl)
   with_reducible refine OpGives.pre_reads [(38,7),(39,8)] 46 ?_ ?_ ?_
   ·rfl
   ·kernel_rfl
   simp only[List.map_cons,List.map_nil]
   subst hSW;refine OpGives.val (v:=.int .i64 (p:Int)) (w':=W1.drew) ?_ ⟨rfl,rfl⟩;go_simp;rw[IntKind.wrap_i64];omega
  case s10=>
   intro g W hSW hd
   try simp only[Nat.zero_add,Nat.reduceAdd]at hd ⊢
   with_reducible refine OpGives.pre_reads [] 46 ?_ ?_ ?_
   ·rfl
   ·kernel_rfl
   simp only[List.map_cons,List.map_nil]
   refine OpGives.val (w':=W) ?_ ⟨rfl,rfl⟩
   go_simp
   try with_reducible rfl
  case s11=>
   intro g W hSW hd
   try simp only[Nat.zero_add,Nat.reduceAdd]at hd ⊢
   have h10:g 10=_:=hd 10 (by decide) (by kernel_rfl)
   with_reducible refine OpGives.pre_reads [(41,10)] 46 ?_ ?_ ?_
   ·rfl
   ·kernel_rfl
   simp only[List.map_cons,List.map_nil]
   refine OpGives.val (w':=W) ?_ ⟨rfl,rfl⟩
   go_simp
   try with_reducible rfl
  case s12=>
   intro g W hSW hd
   try simp only[Nat.zero_add,Nat.reduceAdd]at hd ⊢
   have h11:g 11=_:=hd 11 (by decide) (by kernel_rfl)
   with_reducible refine OpGives.pre_reads [(42,11)] 46 ?_ ?_ ?_
   ·rfl
   ·kernel_rfl
   simp only[List.map_cons,List.map_nil]
   refine OpGives.val (w':=W) ?_ ⟨rfl,rfl⟩
   go_simp
   try with_reducible rfl
  case s13=>
   intro g W hSW hd
   try simp only[Nat.zero_add,Nat.reduceAdd]at hd ⊢
   have h12:g 12=_:=hd 12 (by decide) (by kernel_rfl)
   with_reducible refine OpGives.pre_reads [(43,12)] 46 ?_ ?_ ?_
   ·rfl
   ·kernel_rfl
   simp only[List.map_cons,List.map_nil]
   subst hSW;refine OpGives.val (v:=.int .i64 ((p:Int)+(n:Int))) (w':=W1.drew) ?_ ⟨rfl,rfl⟩;go_simp
  case s14=>
   intro g W hSW hd
   try simp only[Nat.zero_add,Nat.reduceAdd]at hd ⊢
   have h3:g 3=_:=hd 3 (by decide) (by kernel_rfl)
   have h9:g 9=_:=hd 9 (by decide) (by kernel_rfl)
   have h13:g 13=_:=hd 13 (by decide) (by kernel_rfl)
   with_reducible refine OpGives.pre_reads [(34,3),(40,9),(44,13)] 46 ?_ ?_ ?_
   ·rfl
   ·kernel_rfl
   simp only[List.map_cons,List.map_nil]
   subst hSW;refine OpGives.val (v:=.string (s.extract p (p+n))) (w':=W1.drew) ?_ ⟨rfl,rfl⟩;go_simp;first|(rw[run_slice_string _ _ _ _ _ _ _ Tryz.underlying9 (by omega) (by omega) (by omega)];rw[Int.toNat_natCast,show((p:Int)+(n:Int)).toNat=p+n by omega];rfl)|(rw[if_pos (by omega),if_pos (by omega),show((p:Int)+(n:Int)).toNat=p+n by omega]<;>rfl)
  case hS=>rintro a c h rfl;exact h
  case h0=>rfl
  case fin=>
   intro v W hSW hf
   subst hSW
   have h14:v 14=_:=hf 14 (Nat.lt_of_lt_of_eq (by decide:14 < 15) rfl)
   clear hf
   generalize hF:Ord.pre _ _ v _=F
   rw[Ord.pre_lit [some 31,some 32,some 33,some 34,some 35,some 36,some 37,some 38,some 39,some 40,some 41,some 42,some 43,some 44,some 45]
    (by kernel_rfl)]at hF
   simp only[Ord.puts,Nat.zero_add,Nat.reduceAdd]at hF
   subst hF
   rw[h14]
   clear h14
   refine any_one (i:=15) (by kernel_rfl) ?_
   refine wpOp_value (v:=.string (s.extract p (p+n))) (w':=W1.drew) rfl rfl (by go_simp) ?_
   refine wpAny_done (by kernel_rfl) ?_ _
   try simp only[List.getElem_toArray,List.getElem_cons_succ,List.getElem_cons_zero]
   go_frame
   go_wp2_with fail
   go_ret
   exact⟨rfl,HS.out,HM.out.drew⟩
set_option maxHeartbeats 8000000 in
set_option maxRecDepth 100000 in
theorem bytes_no(b:Nat)(s:ByteArray)(p n:Nat)(w:World)(h:RdAt b s p w)(hs:s.size≤140737488355328)(hp:p≤s.size)(hn:s.size < p+n)(hnn:n≤9223372036854775807) :
  Calls Tryz.prog 181 #[.pointer (some ⟨b,0,none⟩),.int .i64 (n:Int)] w fun e w'=>e = .panicked (wrongP s.size 3)∧RdAt b s p w'∧ModB b w w':=by
 have c0:w.cell? ⟨b,0,none⟩=some (.string s):=by rw[Lib.cell_of_heap h];rfl
 have c1:w.cell? ⟨b,1,none⟩=some (.int .i64 (p:Int)):=by rw[Lib.cell_of_heap h];rfl
 have hge:¬ (n:Int)≤(s.size:Int) - (p:Int):=by omega
 have H:=Lib.hid h
 clear h
 go_enter Tryz.func181,Tryz.ntmps181
 go_wp2_with fail
 refine' wp_region_factsT (S:=(fun W=>W=w.drew)) (R:=(fun a b=>a=b)) [eqF _ _,eqF _ _,eqF _ _,eqF _ (.string s),eqF _ _,eqF _ _,eqF _ _,eqF _ _,eqF _ (.int .i64 (p:Int)),eqF _ (.int .i64 ((s.size:Int) - (p:Int))),eqF _ _,eqF _ (.bool false),eqF _ _,eqF _ _,eqF _ _,eqF _ (.string s),eqF _ _] (by kernel_rfl) (by kernel_rfl) ?hS ?h0 (Ord.steps_cons ?s0 (Ord.steps_cons ?s1 (Ord.steps_cons ?s2 (Ord.steps_cons ?s3 (Ord.steps_cons ?s4 (Ord.steps_cons ?s5 (Ord.steps_cons ?s6 (Ord.steps_cons ?s7 (Ord.steps_cons ?s8 (Ord.steps_cons ?s9 (Ord.steps_cons ?s10 (Ord.steps_cons ?s11 (Ord.steps_cons ?s12 (Ord.steps_cons ?s13 (Ord.steps_cons ?s14 (Ord.steps_cons ?s15 (Ord.steps_cons ?s16 (Ord.steps_nil)))))))))))))))))) ?fin
 case s0=>
  intro g W hSW hd
  try simp only[Nat.zero_add,Nat.reduceAdd]at hd ⊢
  with_reducible refine OpGives.pre_reads [] 46 ?_ ?_ ?_
  ·rfl
  ·kernel_rfl
  simp only[List.map_cons,List.map_nil]
  refine OpGives.val (w':=W) ?_ ⟨rfl,rfl⟩
  go_simp
  try with_reducible rfl
 case s1=>
  intro g W hSW hd
  try simp only[Nat.zero_add,Nat.reduceAdd]at hd ⊢
  have h0:g 0=_:=hd 0 (by decide) (by kernel_rfl)
  with_reducible refine OpGives.pre_reads [(5,0)] 46 ?_ ?_ ?_
  ·rfl
  ·kernel_rfl
  simp only[List.map_cons,List.map_nil]
  refine OpGives.val (w':=W) ?_ ⟨rfl,rfl⟩
  go_simp
  try with_reducible rfl
 case s2=>
  intro g W hSW hd
  try simp only[Nat.zero_add,Nat.reduceAdd]at hd ⊢
  have h1:g 1=_:=hd 1 (by decide) (by kernel_rfl)
  with_reducible refine OpGives.pre_reads [(6,1)] 46 ?_ ?_ ?_
  ·rfl
  ·kernel_rfl
  simp only[List.map_cons,List.map_nil]
  refine OpGives.val (w':=W) ?_ ⟨rfl,rfl⟩
  go_simp
  try with_reducible rfl
 case s3=>
  intro g W hSW hd
  try simp only[Nat.zero_add,Nat.reduceAdd]at hd ⊢
  have h2:g 2=_:=hd 2 (by decide) (by kernel_rfl)
  with_reducible refine OpGives.pre_reads [(7,2)] 46 ?_ ?_ ?_
  ·rfl
  ·kernel_rfl
  simp only[List.map_cons,List.map_nil]
  subst hSW;refine OpGives.val (v:=.string s) (w':=w.drew) ?_ ⟨rfl,rfl⟩;go_simp
 case s4=>
  intro g W hSW hd
  try simp only[Nat.zero_add,Nat.reduceAdd]at hd ⊢
  have h3:g 3=_:=hd 3 (by decide) (by kernel_rfl)
  with_reducible refine OpGives.pre_reads [(8,3)] 46 ?_ ?_ ?_
  ·rfl
  ·kernel_rfl
  simp only[List.map_cons,List.map_nil]
  refine OpGives.val (w':=W) ?_ ⟨rfl,rfl⟩
  go_simp
  try with_reducible rfl
 case s5=>
  intro g W hSW hd
  try simp only[Nat.zero_add,Nat.reduceAdd]at hd ⊢
  with_reducible refine OpGives.pre_reads [] 46 ?_ ?_ ?_
  ·rfl
  ·kernel_rfl
  simp only[List.map_cons,List.map_nil]
  refine OpGives.val (w':=W) ?_ ⟨rfl,rfl⟩
  go_simp
  try with_reducible rfl
 case s6=>
  intro g W hSW hd
  try simp only[Nat.zero_add,Nat.reduceAdd]at hd ⊢
  have h5:g 5=_:=hd 5 (by decide) (by kernel_rfl)
  with_reducible refine OpGives.pre_reads [(10,5)] 46 ?_ ?_ ?_
  ·rfl
  ·kernel_rfl
  simp only[List.map_cons,List.map_nil]
  refine OpGives.val (w':=W) ?_ ⟨rfl,rfl⟩
  go_simp
  try with_reducible rfl
 case s7=>
  intro g W hSW hd
  try simp only[Nat.zero_add,Nat.reduceAdd]at hd ⊢
  have h6:g 6=_:=hd 6 (by decide) (by kernel_rfl)
  with_reducible refine OpGives.pre_reads [(11,6)] 46 ?_ ?_ ?_
  ·rfl
  ·kernel_rfl
  simp only[List.map_cons,List.map_nil]
  refine OpGives.val (w':=W) ?_ ⟨rfl,rfl⟩
  go_simp
  try with_reducible rfl
 case s8=>
  intro g W hSW hd
  try simp only[Nat.zero_add,Nat.reduceAdd]at hd ⊢
  have h7:g 7=_:=hd 7 (by decide) (by kernel_rfl)
  with_reducible refine OpGives.pre_reads [(12,7)] 46 ?_ ?_ ?_
  ·rfl
  ·kernel_rfl
  simp only[List.map_cons,List.map_nil]
  subst hSW;refine OpGives.val (v:=.int .i64 (p:Int)) (w':=w.drew) ?_ ⟨rfl,rfl⟩;go_simp
 case s9=>
  intro g W hSW hd
  try simp only[Nat.zero_add,Nat.reduceAdd]at hd ⊢
  have h4:g 4=_:=hd 4 (by decide) (by kernel_rfl)
  have h8:g 8=_:=hd 8 (by decide) (by kernel_rfl)
  with_reducible refine OpGives.pre_reads [(9,4),(13,8)] 46 ?_ ?_ ?_
  ·rfl
  ·kernel_rfl
  simp only[List.map_cons,List.map_nil]
  subst hSW;refine OpGives.val (v:=.int .i64 ((s.size:Int) - (p:Int))) (w':=w.drew) ?_ ⟨rfl,rfl⟩;go_simp;rw[IntKind.wrap_i64];omega
 case s10=>
  intro g W hSW hd
  try simp only[Nat.zero_add,Nat.reduceAdd]at hd ⊢
  with_reducible refine OpGives.pre_reads [] 46 ?_ ?_ ?_
  ·rfl
  ·kernel_rfl
  simp only[List.map_cons,List.map_nil]
  refine OpGives.val (w':=W) ?_ ⟨rfl,rfl⟩
  go_simp
  try with_reducible rfl
 case s11=>
  intro g W hSW hd
  try simp only[Nat.zero_add,Nat.reduceAdd]at hd ⊢
  have h9:g 9=_:=hd 9 (by decide) (by kernel_rfl)
  have h10:g 10=_:=hd 10 (by decide) (by kernel_rfl)
  with_reducible refine OpGives.pre_reads [(14,9),(15,10)] 46 ?_ ?_ ?_
  ·rfl
  ·kernel_rfl
  simp only[List.map_cons,List.map_nil]
  subst hSW;refine OpGives.val (v:=.bool false) (w':=w.drew) ?_ ⟨rfl,rfl⟩;go_simp
 case s12=>
  intro g W hSW hd
  try simp only[Nat.zero_add,Nat.reduceAdd]at hd ⊢
  with_reducible refine OpGives.pre_reads [] 46 ?_ ?_ ?_
  ·rfl
  ·kernel_rfl
  simp only[List.map_cons,List.map_nil]
  refine OpGives.val (w':=W) ?_ ⟨rfl,rfl⟩
  go_simp
  try with_reducible rfl
 case s13=>
  intro g W hSW hd
  try simp only[Nat.zero_add,Nat.reduceAdd]at hd ⊢
  have h12:g 12=_:=hd 12 (by decide) (by kernel_rfl)
  with_reducible refine OpGives.pre_reads [(17,12)] 46 ?_ ?_ ?_
  ·rfl
  ·kernel_rfl
  simp only[List.map_cons,List.map_nil]
  refine OpGives.val (w':=W) ?_ ⟨rfl,rfl⟩
  go_simp
  try with_reducible rfl
 case s14=>
  intro g W hSW hd
  try simp only[Nat.zero_add,Nat.reduceAdd]at hd ⊢
  have h13:g 13=_:=hd 13 (by decide) (by kernel_rfl)
  with_reducible refine OpGives.pre_reads [(18,13)] 46 ?_ ?_ ?_
  ·rfl
  ·kernel_rfl
  simp only[List.map_cons,List.map_nil]
  refine OpGives.val (w':=W) ?_ ⟨rfl,rfl⟩
  go_simp
  try with_reducible rfl
 case s15=>
  intro g W hSW hd
  try simp only[Nat.zero_add,Nat.reduceAdd]at hd ⊢
  have h14:g 14=_:=hd 14 (by decide) (by kernel_rfl)
  with_reducible refine OpGives.pre_reads [(19,14)] 46 ?_ ?_ ?_
  ·rfl
  ·kernel_rfl
  simp only[List.map_cons,List.map_nil]
  subst hSW;refine OpGives.val (v:=.string s) (w':=w.drew) ?_ ⟨rfl,rfl⟩;go_simp
 case s16=>
  intro g W hSW hd
  try simp only[Nat.zero_add,Nat.reduceAdd]at hd ⊢
  have h15:g 15=_:=hd 15 (by decide) (by kernel_rfl)
  with_reducible refine OpGives.pre_reads [(20,15)] 46 ?_ ?_ ?_
  ·rfl
  ·kernel_rfl
  simp only[List.map_cons,List.map_nil]
  refine OpGives.val (w':=W) ?_ ⟨rfl,rfl⟩
  go_simp
  try with_reducible rfl
 case hS=>rintro a c h rfl;exact h
 case h0=>rfl
 case fin=>
  intro v W hSW hf
  subst hSW
  have h11:v 11=_:=hf 11 (Nat.lt_of_lt_of_eq (by decide:11 < 17) rfl)
  have h16:v 16=_:=hf 16 (Nat.lt_of_lt_of_eq (by decide:16 < 17) rfl)
  clear hf
  generalize hF:Ord.pre _ _ v _=F
  rw[Ord.pre_lit [some 5,some 6,some 7,some 8,some 9,some 10,some 11,some 12,some 13,some 14,some 15,some 16,some 17,some 18,some 19,some 20,some 21]
   (by kernel_rfl)]at hF
  simp only[Ord.puts,Nat.zero_add,Nat.reduceAdd]at hF
  subst hF
  rw[h11,h16]
  clear h11 h16
  refine any_one (i:=17) (by kernel_rfl) ?_
  refine wpOp_panics (f:=183) (args:=#[.bool false,.int .i64 (s.size:Int),.int .i64 3]) (w':=w.drew) rfl rfl (by go_simp) ((need_no _ _ _).mono fun e w'' he=>⟨_,he.1,?_⟩)
  rw[he.2]
  exact⟨rfl,rfl,H.out,(ModB.refl b w).drew⟩
end Go.Proofs.YtlmabbigfdbmbaaGreatDoor.PShelfNil
namespace Go.Proofs.YtlmabbigfdbmbaaGreatDoor.PShelfNil
open Go.RowKit Go.Proofs.YtlmabbigfdbmbaaGreatDoor.Ord Go.Proofs.YtlmabbigfdbmbaaGreatDoorW.PrintWords Go.Proofs.YtlmabbigfdbmbaaGreatDoorW.PrintLast Go.Proofs.YtlmabbigfdbmbaaGreatDoorW.PrintMore
inductive DR(α:Type) where
 | ok (x:α) (q:Nat)
 | bad (p e:Nat)
def byteAt(s:ByteArray)(p:Nat):Nat:=(s.data.toList.getD p 0).toNat
def numAt(s:ByteArray)(p:Nat):Nat→Nat
 | 0=>0
 | n+1=>numAt s p n * 256+byteAt s (p+n)
def widthOf(k:Nat):Nat:=if k=1∨k=2 then 8 else 2
def mostOf(k:Nat):Nat:=if k=1∨k=2 then 9223372036854775807 else if k=3 then 65535 else 4095
def manyW(f:Nat→DR S32):Nat→Nat→List S32→DR (List S32)
 | 0,q,acc=> .ok acc q
 | k+1,q,acc=>match f q with
  | .ok x q'=>manyW f k q' (acc ++ [x])
  | .bad p e=> .bad p e
def cellW(s:ByteArray)(deep:Bool)(g:Nat→DR S32)(p:Nat):DR S32:=
 if s.size < p+1 then .bad s.size 3
 else
  let b:=byteAt s p
  if b / 16 < 1∨4 < b / 16 then .bad p 4
  else if widthOf (b / 16) < b % 16 then .bad p 4
  else if deep=false then .bad p 5
  else if s.size < p+1+b % 16 then .bad s.size 3
  else if 0 < b % 16∧byteAt s (p+1)=0 then .bad p 4
  else
   let k:=numAt s (p+1) (b % 16)
   let q:=p+1+b % 16
   if mostOf (b / 16) < k then .bad p 4
   else if b / 16=1 then .ok ⟨1,(k:Int),⟨#[]⟩,[]⟩ q
   else if b / 16=2 then .ok ⟨1,-1 - (k:Int),⟨#[]⟩,[]⟩ q
   else if b / 16=3 then (if s.size < q+k then .bad s.size 3 else .ok ⟨2,0,s.extract q (q+k),[]⟩ (q+k))
   else match manyW g k q []with
    | .ok l q'=> .ok ⟨3,0,⟨#[]⟩,l⟩ q'
    | .bad p' e=> .bad p' e
def cellD(s:ByteArray):Nat→Nat→DR S32
 | 0=>cellW s false (fun _=> .bad 0 0)
 | d+1=>cellW s true (cellD s d)
def CellPost(r:DR S32)(b:Nat)(s:ByteArray)(p:Nat)(w:World)(e:Ending)(w':World):Prop:=
 ModB b w w'∧match r with
 | .ok x q=>(∃ v,e = .returned (.agg #[.int .i64 x.f0,.int .i64 x.f1,.string x.f2,v])∧Kd.R k32 32 w' w.heap.size (fun k=>k≠b) v x.f3)∧RdAt b s q w'∧p≤q∧q≤s.size
 | .bad p e0=>e = .panicked (wrongP (p:Int) (e0:Int))
end Go.Proofs.YtlmabbigfdbmbaaGreatDoor.PShelfNil
namespace Go.Proofs.YtlmabbigfdbmbaaGreatDoor.PShelfNil
open Go.RowKit Go.Proofs.YtlmabbigfdbmbaaGreatDoor.Ord Go.Proofs.YtlmabbigfdbmbaaGreatDoorW.PrintWords Go.Proofs.YtlmabbigfdbmbaaGreatDoorW.PrintLast Go.Proofs.YtlmabbigfdbmbaaGreatDoorW.PrintMore
theorem R_slice{α:Type}{d:Kd α}{e:Nat}{w:World}{base:Nat}{ok:Nat→Prop}{v:Value}{xs:List α}(h:d.R e w base ok v xs):∃ A c,v = .slice A xs.length c:=by
 obtain⟨A,c,hv,_⟩:=Kd.R_reads h
 exact⟨A,c,hv⟩
theorem ModB.put{b:Nat}{w W:World}(h:ModB b w W)(g:Nat)(hg:w.heap.size≤g)(j:Nat)(v:Value):ModB b w (W.setCell ⟨g,j,none⟩ v):=
 ⟨h.os,h.tape,h.output,by have:=h.size;simpa [World.setCell] using this,fun k hk hb=>(Below.heap_setCell _ _ _ _ (show k≠g by omega)).trans (h.block k hk hb)⟩
theorem RdAt.put{b:Nat}{s:ByteArray}{q:Nat}{W:World}(h:RdAt b s q W)(g:Nat)(hg:b≠g)(j:Nat)(v:Value):RdAt b s q (W.setCell ⟨g,j,none⟩ v):=
 (Below.heap_setCell W ⟨g,j,none⟩ v b hg).trans h
def okR(b g:Nat)(k:Nat):Prop:=k≠b∧g < k
structure OutAt(W1:World)(b g:Nat)(s:ByteArray)(v:Value)(acc:List S32)(q:Nat)(W:World):Prop where
 mod:ModB b W1 W
 ge:W1.heap.size≤g
 lt:b < W1.heap.size
 blk:W.heap[g]? = some (.cells #[.int .i64 3,.int .i64 0,.string (⟨#[]⟩:ByteArray),v] 32 (0,0))
 row:Kd.R k32 32 W (g+1) (okR b g) v acc
 rd:RdAt b s q W
structure ModV(b:Nat)(v:Value)(w w':World):Prop where
 os:w'.os=w.os
 tape:w'.tape=w.tape
 output:w'.output=w.output
 size:w.heap.size≤w'.heap.size
 block:∀ k,k < w.heap.size→k≠b→v.ownBlock≠some k→w'.heap[k]? = w.heap[k]?
theorem ModV.trans{b:Nat}{v:Value}{w w1 w2:World}(h:ModV b v w w1)(k:ModV b v w1 w2):ModV b v w w2:=
 ⟨k.os.trans h.os,k.tape.trans h.tape,k.output.trans h.output,Nat.le_trans h.size k.size,fun i hi hb hv=>(k.block i (Nat.lt_of_lt_of_le hi h.size) hb hv).trans (h.block i hi hb hv)⟩
theorem ModV.of_B{b:Nat}{v:Value}{w w':World}(h:ModB b w w'):ModV b v w w':=⟨h.os,h.tape,h.output,h.size,fun k hk hb _=>h.block k hk hb⟩
theorem ModV.drew{b:Nat}{v:Value}{w:World} : ModV b v w w.drew:=⟨rfl,rfl,rfl,Nat.le_refl _,fun _ _ _ _=>rfl⟩
theorem ModV.of_grown{b:Nat}{v:Value}{w w':World}(h:w.grownBy w' v.ownBlock):ModV b v w w':=⟨h.os,h.tape,h.output,h.size,fun k hk _ hv=>h.block k hk (fun e=>hv e.symm)⟩
def Rr(b:Nat)(v:Value)(i:Nat)(a c:World):Prop:=if i=7 then a.grownBy c v.ownBlock else ModB b a c
theorem Rr.modV{b:Nat}{v:Value}{i:Nat}{a c:World}(h:Rr b v i a c):ModV b v a c:=by
 unfold Rr at h
 split at h
 ·exact ModV.of_grown h
 ·exact ModV.of_B h
def childP(b:Nat)(v:Value)(x:S32)(lo:Nat)(u:Value)(W:World):Prop:=
 ∃ v3,u = .agg #[.int .i64 x.f0,.int .i64 x.f1,.string x.f2,v3]∧Kd.R k32 32 W lo (fun k=>k≠b∧v.ownBlock≠some k) v3 x.f3
theorem childP.st{b:Nat}{v:Value}{x:S32}{lo:Nat}{u:Value}{W W':World}(h:childP b v x lo u W)(hm:ModV b v W W'):childP b v x lo u W':=by
 obtain⟨v3,e,hr⟩:=h
 exact⟨v3,e,Kd.R_step hr (fun k hk hl=>hm.block k hl hk.1 hk.2)⟩
def litP(b:Nat)(v:Value)(x:S32)(lo:Nat)(u:Value)(W:World):Prop:=
 ∃ g v3,u = .slice (some ⟨g,0,none⟩) 1 1∧W.heap[g]? = some (.cells #[.int .i64 x.f0,.int .i64 x.f1,.string x.f2,v3] 32 (0,0))∧g≠b∧v.ownBlock≠some g∧v3.oneCell'=true∧Kd.R k32 32 W lo (fun k=>k≠b∧v.ownBlock≠some k) v3 x.f3
theorem litP.st{b:Nat}{v:Value}{x:S32}{lo:Nat}{u:Value}{W W':World}(h:litP b v x lo u W)(hm:ModV b v W W'):litP b v x lo u W':=by
 obtain⟨g,v3,e,hg,hb,hv,h1,hr⟩:=h
 exact⟨g,v3,e,(hm.block g (Array.getElem?_eq_some_iff.1 hg).1 hb hv).trans hg,hb,hv,h1,Kd.R_step hr (fun k hk hl=>hm.block k hl hk.1 hk.2)⟩
def rowP(b g:Nat)(xs:List S32)(u:Value)(W:World):Prop:=Kd.R k32 32 W (g+1) (okR b g) u xs
theorem rowP.st{b g:Nat}{xs:List S32}{u:Value}{W W':World}(h:rowP b g xs u W)(hm:ModB b W W'):rowP b g xs u W':=Kd.R_step h (fun k hk hl=>hm.block k hl hk.1)
def InR(wr:World)(b g:Nat)(s:ByteArray)(v:Value)(acc:List S32)(q q':Nat)(L:Nat→Bool)(W:World):Prop:=
 ModV b v wr W∧(L 7=false→Kd.R k32 32 W (g+1) (okR b g) v acc)∧(L 5=false→RdAt b s q W)∧(L 5=true→RdAt b s q' W∧q≤q'∧q'≤s.size)
theorem own_lt_R{b g:Nat}{v:Value}{acc:List S32}{W:World}(h:Kd.R k32 32 W (g+1) (okR b g) v acc):∀ k,v.ownBlock=some k→g < k∧k≠b∧k < W.heap.size:=fun k hk=>by
 have h0:=h.1 k hk
 obtain⟨_,inner,ho,_⟩:=h
 exact⟨h0.2,h0.1,own_lt ho k hk⟩
theorem infoCell:(Tryz.prog.info? 32).map (fun i=>(i.zero,i.size,i.bytes))=some (some (.agg #[.int .i64 0,.int .i64 0,.string (⟨#[]⟩:ByteArray),.slice none 0 0]),4,56):=by kernel_rfl
theorem append_cell{b g:Nat}{s:ByteArray}{v:Value}{acc:List S32}{q q':Nat}{wr W:World}{L:Nat→Bool}{x:S32}{lo:Nat}{u:Value}(hS:InR wr b g s v acc q q' L W)(hL:L 7=false)(hb:b < wr.heap.size)(hg:g < wr.heap.size)(hlo:g+1≤lo)(hlg:∀ k,lo≤k→g < k)
  (h6:litP b v x lo u W) (hn:acc.length≤1000000) (ty:TypeId) :
  ∃ v' W',(Builtin.append_ #[30,30] ty #[v,u]).run Tryz.prog W = .ok v' W'∧W.grownBy W' v.ownBlock∧rowP b g (acc ++ [x]) v' W'∧InR wr b g s v acc q q' (fun k=>if k=7 then true else L k) W':=by
 obtain⟨hm,hrow,h5,h5'⟩:=hS
 have hR:=hrow hL
 obtain⟨g6,v3,rfl,hg6,hgb,hgv,h1,hr3⟩:=h6
 obtain⟨i0,hi0,hz0,hz1,hz2⟩:=info_parts infoCell
 obtain⟨h0,inner,hown,hreps⟩:=hR
 have hne:=own_lt_R (hrow hL)
 have hbn:(acc.length+1) * 56≤1000001 * 56:=Nat.mul_le_mul (by omega) (Nat.le_refl _)
 obtain⟨h,cap,W',hr,hown',hgr,hat,_⟩:=run_append_lies (P:=Tryz.prog) W 30 ty (g+1) 32 i0 _ 4 56 Tryz.underlying30 hi0 hz0 hz1 hz2 (by rfl) (by decide) v acc.length _ hown ⟨g6,0,none⟩ 1 1 [.int .i64 x.f0,.int .i64 x.f1,.string x.f2,v3]
  (by rfl) (World.news_of_block (cs:=#[.int .i64 x.f0,.int .i64 x.f1,.string x.f2,v3]) hg6) (by
   intro u hu
   simp only[List.mem_cons,List.not_mem_nil,or_false]at hu
   rcases hu with rfl | rfl | rfl | rfl
   ·rfl
   ·rfl
   ·rfl
   ·exact h1) (by decide) (by unfold maxLen;omega) (by omega) (by have:=hm.size;omega) W.heap.size rfl
 have hm3:Kd.M k32 W (g+1) (fun k=>(k≠b∧v.ownBlock≠some k)∧lo≤k) x [.int .i64 x.f0,.int .i64 x.f1,.string x.f2,v3]:=
  k32_mkM W (g+1) _ x (Kd.R_lower (Kd.R_mono (Kd.R_bound hr3) (fun k hk=>⟨hk.1,hk.2.1⟩)) hlo)
 have hres:=Kd.R_appended (d:=k32) (e:=32) (base:=g+1) (ok:=okR b g) (W:=W) (w1:=W') (v:=v) (v1:=.slice (some ⟨h,0,none⟩) (acc.length+1) cap) h0 hreps hm3 (fun k hk=>⟨⟨hk.1.1,hlg k hk.2⟩,fun e=>hk.1.2 e.symm⟩) (fun k hk=>⟨by have:=hm.size;omega,by have:=hm.size;omega⟩) hown' hgr
  (hat.elim (fun e=> .inl (by rw[e];rfl)) (fun e=> .inr ⟨h,rfl,by omega⟩))
 refine⟨_,W',hr,hgr,hres,hm.trans (ModV.of_grown hgr),fun e=>(by cases e),fun e=>?_,fun e=>?_⟩
 ·have hr:=h5 e
  exact(hgr.block b (by have:=hm.size;omega) (fun e=>(hne b e.symm).2.1 rfl)).trans hr
 ·have hr:=h5' e
  exact⟨(hgr.block b (by have:=hm.size;omega) (fun e=>(hne b e.symm).2.1 rfl)).trans hr.1,hr.2⟩
theorem Rr.of_B{b:Nat}{v:Value}{i:Nat}{a c:World}(hi:i≠7)(h:ModB b a c):Rr b v i a c:=by unfold Rr;rw[if_neg hi];exact h
theorem Rr.of_grown{b:Nat}{v:Value}{a c:World}(h:a.grownBy c v.ownBlock):Rr b v 7 a c:=by unfold Rr;rw[if_pos rfl];exact h
theorem Rr.toB{b:Nat}{v:Value}{i:Nat}{a c:World}(hi:i≠7)(h:Rr b v i a c):ModB b a c:=by unfold Rr at h;rw[if_neg hi]at h;exact h
theorem call_post{wr W w':World}{b g:Nat}{s:ByteArray}{v:Value}{acc:List S32}{q q':Nat}{L:Nat→Bool}{x:S32}{e:Ending}(hS:InR wr b g s v acc q q' L W)(hb:b < wr.heap.size)(hv:∀ k,v.ownBlock=some k→k < wr.heap.size)
  (hp:CellPost (.ok x q') b s q W e w'):∃ u,e = .returned u∧Rr b v 5 W w'∧childP b v x wr.heap.size u w'∧InR wr b g s v acc q q' (fun k=>if k=5 then true else L k) w':=by
 obtain⟨hm,⟨v3,he,hR⟩,hrd,hq⟩:=hp
 obtain⟨h1,h2,h3,h4⟩:=hS
 refine⟨_,he,Rr.of_B (by decide) hm,⟨v3,rfl,?_⟩,h1.trans (ModV.of_B hm),fun e=>?_,fun e=>(by cases e),fun _=>⟨hrd,hq⟩⟩
 ·exact Kd.R_lower (Kd.R_mono (Kd.R_bound hR) (fun k hk=>⟨hk.1,fun e=>by have:=hv k e;have:=h1.size;omega⟩)) h1.size
 ·exact Kd.R_step (h2 e) (fun k hk hl=>hm.block k hl hk.1)
theorem lit_post{wr W:World}{b g:Nat}{s:ByteArray}{v v3:Value}{acc:List S32}{q q':Nat}{L:Nat→Bool}{x:S32}(hS:InR wr b g s v acc q q' L W)(hb:b < wr.heap.size)(hv:∀ k,v.ownBlock=some k→k < wr.heap.size)(h1:v3.oneCell'=true)
  (hR:Kd.R k32 32 W wr.heap.size (fun k=>k≠b∧v.ownBlock≠some k) v3 x.f3) :
  Rr b v 6 W (W.alloc (.cells #[.int .i64 x.f0,.int .i64 x.f1,.string x.f2,v3] 32))∧litP b v x wr.heap.size (.slice (some ⟨W.heap.size,0,none⟩) 1 1) (W.alloc (.cells #[.int .i64 x.f0,.int .i64 x.f1,.string x.f2,v3] 32))∧
  InR wr b g s v acc q q' (fun k=>if k=6 then true else L k) (W.alloc (.cells #[.int .i64 x.f0,.int .i64 x.f1,.string x.f2,v3] 32)):=by
 obtain⟨m1,m2,m3,m4⟩:=hS
 have hn:Below W.heap.size W (W.alloc (.cells #[.int .i64 x.f0,.int .i64 x.f1,.string x.f2,v3] 32)):=(Below.refl _ _).alloc (Nat.le_refl _) _
 refine⟨Rr.of_B (by decide) (ModB.of_below hn),⟨_,_,rfl,heap_alloc_last _ _,by have:=m1.size;omega,fun e=>by have:=hv _ e;have:=m1.size;omega,h1,Kd.R_below hR hn⟩,m1.trans (ModV.of_B (ModB.of_below hn)),fun e=>Kd.R_below (m2 e) hn,fun e=>(m3 e).kept hn,fun e=>⟨(m4 e).1.kept hn,(m4 e).2⟩⟩
theorem facts_st{b g lo:Nat}{v:Value}{x:S32}{acc:List S32}{V0 V1 V2 V3 V4:Value} : ∀ (i j:Nat) (u:Value) (w w':World),i≠j→
  factM [eqM V0,eqM V1,eqM V2,eqM V3,eqM V4,childP b v x lo,litP b v x lo,rowP b g (acc ++ [x])] i u w→Rr b v j w w'→factM [eqM V0,eqM V1,eqM V2,eqM V3,eqM V4,childP b v x lo,litP b v x lo,rowP b g (acc ++ [x])] i u w'
 | 0,_,_,_,_,_,h,_=>h
 | 1,_,_,_,_,_,h,_=>h
 | 2,_,_,_,_,_,h,_=>h
 | 3,_,_,_,_,_,h,_=>h
 | 4,_,_,_,_,_,h,_=>h
 | 5,_,_,_,_,_,h,hR=>childP.st h hR.modV
 | 6,_,_,_,_,_,h,hR=>litP.st h hR.modV
 | 7,j,_,_,_,hij,h,hR=>rowP.st h (Rr.toB (Ne.symm hij) hR)
 | n+8,_,_,_,_,_,_,_=>trivial
def badM:Value→World→Prop:=fun _ _=>False
theorem facts_bad{b:Nat}{V0 V1 V2 V3 V4 V7:Value} : ∀ (i j:Nat) (u:Value) (w w':World),i≠j→
  factM [eqM V0,eqM V1,eqM V2,eqM V3,eqM V4,badM,badM,eqM V7] i u w→ModB b w w'→factM [eqM V0,eqM V1,eqM V2,eqM V3,eqM V4,badM,badM,eqM V7] i u w'
 | 0,_,_,_,_,_,h,_=>h
 | 1,_,_,_,_,_,h,_=>h
 | 2,_,_,_,_,_,h,_=>h
 | 3,_,_,_,_,_,h,_=>h
 | 4,_,_,_,_,_,h,_=>h
 | 5,_,_,_,_,_,h,_=>h
 | 6,_,_,_,_,_,h,_=>h
 | 7,_,_,_,_,_,h,_=>h
 | n+8,_,_,_,_,_,_,_=>trivial
theorem out_step{W1 wr W:World}{b g:Nat}{s:ByteArray}{v v7:Value}{acc:List S32}{x:S32}{q q':Nat}(ho:OutAt W1 b g s v acc q wr)(hm:ModV b v wr W)(hr:rowP b g (acc ++ [x]) v7 W)(hrd:RdAt b s q' W) :
  OutAt W1 b g s v7 (acc ++ [x]) q' (W.setCell ⟨g,3,none⟩ v7):=by
 have hown:=own_lt_R ho.row
 have hgl:=(Array.getElem?_eq_some_iff.1 ho.blk).1
 have hgb:g≠b:=by have:=ho.lt;have:=ho.ge;omega
 have hb:=(hm.block g hgl hgb (fun e=>Nat.lt_irrefl _ (hown _ e).1)).trans ho.blk
 have hm1:ModB b W1 W:=⟨hm.os.trans ho.mod.os,hm.tape.trans ho.mod.tape,hm.output.trans ho.mod.output,Nat.le_trans ho.mod.size hm.size,fun k hk hkb=>
  (hm.block k (Nat.lt_of_lt_of_le hk ho.mod.size) hkb (fun e=>by have:=(hown _ e).1;have:=ho.ge;omega)).trans (ho.mod.block k hk hkb)⟩
 exact⟨hm1.put g ho.ge 3 v7,ho.ge,ho.lt,blk_put (cs:=#[.int .i64 3,.int .i64 0,.string (⟨#[]⟩:ByteArray),v]) hb 3 _ rfl,
  Kd.R_far (p:=⟨g,3,none⟩) hr (fun k hk=>Nat.ne_of_gt hk.2) v7,hrd.put g (Ne.symm hgb) 3 v7⟩
end Go.Proofs.YtlmabbigfdbmbaaGreatDoor.PShelfNil
