/- Texts of one proof, joined: Ba, PShelfNilx0, PShelfNilx4, Sha, Da, Db, Dc, De, Df, Dg, Dh, Di, Dj, Dk, Dl, Dm. -/
import Derived.Test.YtlmabbigfdbmbaaGreatDoorProg
import Derived.Test.YtlmabbigfdbmbaaGreatDoorYa
import Derived.Test.YtlmabbigfdbmbaaGreatDoorYb
import Derived.Deep.WholeRow
import Derived.WalkKit
import Derived.WalkSpells
import Derived.WalkLawsBesides
import Derived.KernelRfl
import Derived.Deep.Draws
import Derived.Deep.QuietTactic
import Derived.BigQuiet
import Derived.Lib.Hide
import Derived.LoopTactic
import Derived.Deep.LoopGhost
import Derived.IntWalk
import Derived.Lib.Strings
import Derived.Laws.Strings
import Derived.Laws.Shifts
import Derived.Below
import Derived.Deep.AppendLies
import Derived.Maps.AppendAt
import Derived.OwnWalk
import Derived.Laws.BytesArg
import Derived.Laws.MakeOwn
import Derived.Laws.OwnMore
import Derived.Deep.OwnRows
import Derived.Tactics
import Derived.Lib.ConvBytes
import Derived.Laws.Slices
import Derived.RowKit3
import Derived.WideLaws
import Derived.Deep.DeepCutAuto
import Derived.Deep.CutBlock
import Derived.Deep.RegionHeld3
import Derived.Laws.Rows
import Derived.Lib.AppendStr
import Derived.ArgAppend
import Derived.Laws.IdiomCopy
import Derived.OrdersHeld
import Derived.Laws.BitsLemmas
import Derived.RowKit
import Derived.Deep.MidRow
import Derived.StillTailTactics
import Derived.Deep.RegionWith
set_option linter.unusedSimpArgs false
set_option linter.unusedVariables false
namespace Go.Proofs.YtlmabbigfdbmbaaGreatDoor.Base
open Go.RowKit Go.Proofs.YtlmabbigfdbmbaaGreatDoorW.PrintWords Go.Proofs.YtlmabbigfdbmbaaGreatDoor.Ord
theorem bdN'{B:Nat}{a w:World}{n:Nat}(h:Below B a w):Below B a (w.drewN n):=⟨h.os,h.tape,h.output,h.size,h.block⟩
theorem grown_below{w w':World}(h:Below w.heap.size w w')(row:Option Nat):w.grownBy w' row:=⟨h.os,h.tape,h.output,h.size,fun k hk _=>h.block k hk⟩
theorem info5:(Tryz.prog.info? 5).map (fun i=>(i.zero,i.size,i.bytes))=some (some (.int .u8 0),1,1):=by kernel_rfl
def ints(l:List UInt8):List Int:=l.map fun b=>(b.toNat:Int)
theorem ints_append(a b:List UInt8):ints (a++b)=ints a++ints b:=List.map_append
theorem str_ints(l:List UInt8):(strOfNums (ints l))=⟨l.toArray⟩:=by
 simp[strOfNums,ints,Function.comp_def]
theorem cells_new(w:World)(l:List Value)(t:TypeId)(j:Nat)(u:Value)(h:l[j]? = some u):(w.alloc (.cells l.toArray t)).cell? ((⟨w.heap.size,0,none⟩:Addr).add j)=some u:=by
 have hadd:(⟨w.heap.size,0,none⟩:Addr).add j=⟨w.heap.size,j,none⟩:=by unfold Addr.add;split<;>simp_all
 rw[hadd,cell_of_row _ _ j _ t (0,0) (heap_alloc_last w _)];simpa using h
theorem nums_one(k:IntKind)(l:List Int)(v:Value)(h:v∈nums k l):v.oneCell'=true:=by
 obtain⟨x,_,rfl⟩:=List.mem_map.1 h;rfl
def NewMem(w w':World):Prop:=Below w.heap.size w w'
theorem NewMem.refl(w:World):NewMem w w:=Below.refl _ _
theorem NewMem.trans{a b c:World}(h:NewMem a b)(k:NewMem b c):NewMem a c:=Below.trans h (Below.mono k (Below.size h))
theorem NewMem.alloc(w:World)(o:Obj):NewMem w (w.alloc o):=(Below.refl _ _).alloc (Nat.le_refl _) _
end Go.Proofs.YtlmabbigfdbmbaaGreatDoor.Base
namespace Go.Proofs.YtlmabbigfdbmbaaGreatDoor.PShelfNil
open Go.RowKit Go.Proofs.YtlmabbigfdbmbaaGreatDoorW.PrintWords Go.Proofs.YtlmabbigfdbmbaaGreatDoorW.PrintLast Go.Proofs.YtlmabbigfdbmbaaGreatDoorW.PrintMore
attribute [local go_sem] max2_int min2_int max_two min_two max_three min_three max_four min_four
def errW:Option Int→Value
 | none=> .nilIface
 | some c=> .iface 0 (.int .i64 c)
theorem errW_none:errW none = .nilIface:=rfl
theorem errW_some(c:Int):errW (some c) = .iface 0 (.int .i64 c):=rfl
theorem info5:(Tryz.prog.info? 5).map (fun i=>(i.zero,i.size,i.bytes))=some (some (.int .u8 0),1,1):=by kernel_rfl
structure S32 where
 f0:Int
 f1:Int
 f2:ByteArray
 f3:(List S32)
def z32:S32:=⟨(0:Int),(0:Int),(⟨#[]⟩:ByteArray),([]:List S32)⟩
def F32(d:Kd S32):Kd S32:=Kd.iso (Kd.pair (Kd.int .i64) (Kd.pair (Kd.int .i64) (Kd.pair Kd.string (Kd.slice 32 d)))) (fun x:S32=>(x.f0,x.f1,x.f2,x.f3))
theorem mono32:Kd.Mono F32:=Kd.mono_iso _ (Kd.mono_pair (Kd.mono_const _) (Kd.mono_pair (Kd.mono_const _) (Kd.mono_pair (Kd.mono_const _) (Kd.mono_slice 32 Kd.mono_id))))
theorem sub32:Kd.Sub F32 [32]:=Kd.sub_iso _ (Kd.sub_pair (Kd.sub_const _ (by decide)) (Kd.sub_pair (Kd.sub_const _ (by decide)) (Kd.sub_pair (Kd.sub_const _ (by decide)) (Kd.sub_slice 32 (by decide) Kd.sub_id))))
theorem sz32:∀ n,(Kd.upto F32 4 [32] n).sz=4:=Kd.upto_sz (fun _=>rfl)
def k32:Kd S32:=Kd.fix F32 4 [32] sz32 (Kd.upto_E sub32)
theorem k32_open{w:World}{x:S32}{cs:List Value}(h:k32.K w x cs):∃ A3 c3,cs = [.int .i64 x.f0,.int .i64 x.f1,.string x.f2,.slice A3 x.f3.length c3]∧x.f3.length≤c3∧k32.C w A3 x.f3.length x.f3:=by
 obtain⟨n,h⟩:=h
 cases n with
 | zero=>exact h.elim
 | succ n=>
  obtain⟨_,_,rfl,rfl,⟨_,_,rfl,rfl,⟨_,_,rfl,rfl,⟨A3,c3,rfl,l3,g3⟩⟩⟩⟩:=h
  exact⟨A3,c3,rfl,l3,Kd.fix_C g3⟩
theorem k32_openM{w:World}{base:Nat}{ok:Nat→Prop}{x:S32}{cs:List Value}(h:k32.M w base ok x cs):∃ v3,cs = [.int .i64 x.f0,.int .i64 x.f1,.string x.f2,v3]∧k32.R 32 w base ok v3 x.f3:=by
 obtain⟨n,h⟩:=h
 cases n with
 | zero=>exact h.elim
 | succ n=>
  obtain⟨_,_,rfl,rfl,⟨_,_,rfl,rfl,⟨_,_,rfl,rfl,⟨v3,rfl,g3⟩⟩⟩⟩:=h
  exact⟨v3,rfl,Kd.fix_R g3⟩
theorem k32_mk(w:World)(x:S32){A3:Option Addr}{c3:Nat}(l3:x.f3.length≤c3)(g3:k32.C w A3 x.f3.length x.f3):k32.K w x [.int .i64 x.f0,.int .i64 x.f1,.string x.f2,.slice A3 x.f3.length c3]:=by
 obtain⟨n3,q3⟩:=Kd.fix_C_back mono32 g3
 have r3:=Kd.upto_C_le mono32 sz32 (show n3≤n3 by omega) q3
 exact⟨n3+1,⟨[.int .i64 x.f0],[.int .i64 x.f1,.string x.f2,.slice A3 x.f3.length c3],rfl,rfl,⟨[.int .i64 x.f1],[.string x.f2,.slice A3 x.f3.length c3],rfl,rfl,⟨[.string x.f2],[.slice A3 x.f3.length c3],rfl,rfl,⟨A3,c3,rfl,l3,r3⟩⟩⟩⟩⟩
theorem k32_mkM(w:World)(base:Nat)(ok:Nat→Prop)(x:S32){v3:Value}(g3:k32.R 32 w base ok v3 x.f3):k32.M w base ok x [.int .i64 x.f0,.int .i64 x.f1,.string x.f2,v3]:=by
 obtain⟨n3,q3⟩:=Kd.fix_R_back mono32 g3
 have r3:=Kd.upto_R_le mono32 sz32 (show n3≤n3 by omega) q3
 exact⟨n3+1,⟨[.int .i64 x.f0],[.int .i64 x.f1,.string x.f2,v3],rfl,rfl,⟨[.int .i64 x.f1],[.string x.f2,v3],rfl,rfl,⟨[.string x.f2],[v3],rfl,rfl,⟨v3,rfl,r3⟩⟩⟩⟩⟩
def rd_T32(xs:List S32)(i:Int):S32:=xs.getD i.toNat z32
theorem at_T32{w:World}{A:Option Addr}{n:Nat}{xs:List S32}(h:Kd.C k32 w A n xs)(i:Int)(h0:0≤i)(h1:i < n):∃ ad A3 c3,A=some ad∧w.cell? (ad.add (i.toNat * 4))=some (.int .i64 (rd_T32 xs i).f0)∧w.cell? ⟨(ad.add (i.toNat * 4)).block,(ad.add (i.toNat * 4)).off+1,none⟩=some (.int .i64 (rd_T32 xs i).f1)∧w.cell? ⟨(ad.add (i.toNat * 4)).block,(ad.add (i.toNat * 4)).off+2,none⟩=some (.string (rd_T32 xs i).f2)∧w.cell? ⟨(ad.add (i.toNat * 4)).block,(ad.add (i.toNat * 4)).off+3,none⟩=some (.slice A3 (rd_T32 xs i).f3.length c3)∧(rd_T32 xs i).f3.length≤c3∧k32.C w A3 (rd_T32 xs i).f3.length (rd_T32 xs i).f3:=by
 obtain⟨ad,c,e,_,hK,hc0⟩:=Kd.C_get h z32 i h0 h1
 have hc:∀ j u,c[j]? = some u→w.cell? (ad.add (i.toNat * 4+j))=some u:=hc0
 obtain⟨A3,c3,rfl,l3,g3⟩:=k32_open hK
 exact⟨ad,A3,c3,e,hc 0 _ rfl,by rw[← add_field _ _ 1 (by omega)];exact hc 1 _ rfl,by rw[← add_field _ _ 2 (by omega)];exact hc 2 _ rfl,by rw[← add_field _ _ 3 (by omega)];exact hc 3 _ rfl,l3,g3⟩
structure S172 where
 f0:Int
 f1:Int
 f2:ByteArray
def z172:S172:=⟨(0:Int),(0:Int),(⟨#[]⟩:ByteArray)⟩
def k172:Kd S172:=Kd.iso (Kd.pair (Kd.int .i64) (Kd.pair (Kd.int .i64) Kd.string)) (fun x:S172=>(x.f0,x.f1,x.f2))
theorem k172_open{w:World}{x:S172}{cs:List Value}(h:k172.K w x cs):cs = [.int .i64 x.f0,.int .i64 x.f1,.string x.f2]:=by
 obtain⟨_,_,rfl,rfl,⟨_,_,rfl,rfl,rfl⟩⟩:=h
 exact rfl
theorem k172_mk(w:World)(x:S172):k172.K w x [.int .i64 x.f0,.int .i64 x.f1,.string x.f2]:=⟨[.int .i64 x.f0],[.int .i64 x.f1,.string x.f2],rfl,rfl,⟨[.int .i64 x.f1],[.string x.f2],rfl,rfl,rfl⟩⟩
theorem k172_mkM(w:World)(base:Nat)(ok:Nat→Prop)(x:S172):k172.M w base ok x [.int .i64 x.f0,.int .i64 x.f1,.string x.f2]:=⟨[.int .i64 x.f0],[.int .i64 x.f1,.string x.f2],rfl,rfl,⟨[.int .i64 x.f1],[.string x.f2],rfl,rfl,rfl⟩⟩
structure S174 where
 f0:Int
 f1:Int
 f2:S172
def z174:S174:=⟨(0:Int),(0:Int),z172⟩
def k174:Kd S174:=Kd.iso (Kd.pair (Kd.int .i64) (Kd.pair (Kd.int .i64) k172)) (fun x:S174=>(x.f0,x.f1,x.f2))
theorem k174_open{w:World}{x:S174}{cs:List Value}(h:k174.K w x cs):cs = [.int .i64 x.f0,.int .i64 x.f1,.int .i64 x.f2.f0,.int .i64 x.f2.f1,.string x.f2.f2]:=by
 obtain⟨_,_,rfl,rfl,⟨_,_,rfl,rfl,s2⟩⟩:=h
 obtain rfl:=k172_open s2
 exact rfl
theorem k174_mk(w:World)(x:S174):k174.K w x [.int .i64 x.f0,.int .i64 x.f1,.int .i64 x.f2.f0,.int .i64 x.f2.f1,.string x.f2.f2]:=⟨[.int .i64 x.f0],[.int .i64 x.f1,.int .i64 x.f2.f0,.int .i64 x.f2.f1,.string x.f2.f2],rfl,rfl,⟨[.int .i64 x.f1],[.int .i64 x.f2.f0,.int .i64 x.f2.f1,.string x.f2.f2],rfl,rfl,(k172_mk w x.f2 )⟩⟩
theorem k174_mkM(w:World)(base:Nat)(ok:Nat→Prop)(x:S174):k174.M w base ok x [.int .i64 x.f0,.int .i64 x.f1,.int .i64 x.f2.f0,.int .i64 x.f2.f1,.string x.f2.f2]:=⟨[.int .i64 x.f0],[.int .i64 x.f1,.int .i64 x.f2.f0,.int .i64 x.f2.f1,.string x.f2.f2],rfl,rfl,⟨[.int .i64 x.f1],[.int .i64 x.f2.f0,.int .i64 x.f2.f1,.string x.f2.f2],rfl,rfl,(k172_mkM w base ok x.f2 )⟩⟩
def rd_T174(xs:List S174)(i:Int):S174:=xs.getD i.toNat z174
theorem at_T174{w:World}{A:Option Addr}{n:Nat}{xs:List S174}(h:Kd.C k174 w A n xs)(i:Int)(h0:0≤i)(h1:i < n):∃ ad ,A=some ad∧w.cell? (ad.add (i.toNat * 5))=some (.int .i64 (rd_T174 xs i).f0)∧w.cell? ⟨(ad.add (i.toNat * 5)).block,(ad.add (i.toNat * 5)).off+1,none⟩=some (.int .i64 (rd_T174 xs i).f1)∧w.cell? ⟨(ad.add (i.toNat * 5)).block,(ad.add (i.toNat * 5)).off+2,none⟩=some (.int .i64 (rd_T174 xs i).f2.f0)∧w.cell? ⟨(ad.add (i.toNat * 5)).block,(ad.add (i.toNat * 5)).off+3,none⟩=some (.int .i64 (rd_T174 xs i).f2.f1)∧w.cell? ⟨(ad.add (i.toNat * 5)).block,(ad.add (i.toNat * 5)).off+4,none⟩=some (.string (rd_T174 xs i).f2.f2):=by
 obtain⟨ad,c,e,_,hK,hc0⟩:=Kd.C_get h z174 i h0 h1
 have hc:∀ j u,c[j]? = some u→w.cell? (ad.add (i.toNat * 5+j))=some u:=hc0
 obtain rfl:=k174_open hK
 exact⟨ad,e,hc 0 _ rfl,by rw[← add_field _ _ 1 (by omega)];exact hc 1 _ rfl,by rw[← add_field _ _ 2 (by omega)];exact hc 2 _ rfl,by rw[← add_field _ _ 3 (by omega)];exact hc 3 _ rfl,by rw[← add_field _ _ 4 (by omega)];exact hc 4 _ rfl⟩
structure S115 where
 f0:Int
 f1:ByteArray
def z115:S115:=⟨(0:Int),(⟨#[]⟩:ByteArray)⟩
def k115:Kd S115:=Kd.iso (Kd.pair (Kd.int .u8) Kd.string) (fun x:S115=>(x.f0,x.f1))
theorem k115_open{w:World}{x:S115}{cs:List Value}(h:k115.K w x cs):cs = [.int .u8 x.f0,.string x.f1]:=by
 obtain⟨_,_,rfl,rfl,rfl⟩:=h
 exact rfl
theorem k115_mk(w:World)(x:S115):k115.K w x [.int .u8 x.f0,.string x.f1]:=⟨[.int .u8 x.f0],[.string x.f1],rfl,rfl,rfl⟩
theorem k115_mkM(w:World)(base:Nat)(ok:Nat→Prop)(x:S115):k115.M w base ok x [.int .u8 x.f0,.string x.f1]:=⟨[.int .u8 x.f0],[.string x.f1],rfl,rfl,rfl⟩
def rd_T115(xs:List S115)(i:Int):S115:=xs.getD i.toNat z115
theorem at_T115{w:World}{A:Option Addr}{n:Nat}{xs:List S115}(h:Kd.C k115 w A n xs)(i:Int)(h0:0≤i)(h1:i < n):∃ ad ,A=some ad∧w.cell? (ad.add (i.toNat * 2))=some (.int .u8 (rd_T115 xs i).f0)∧w.cell? ⟨(ad.add (i.toNat * 2)).block,(ad.add (i.toNat * 2)).off+1,none⟩=some (.string (rd_T115 xs i).f1):=by
 obtain⟨ad,c,e,_,hK,hc0⟩:=Kd.C_get h z115 i h0 h1
 have hc:∀ j u,c[j]? = some u→w.cell? (ad.add (i.toNat * 2+j))=some u:=hc0
 obtain rfl:=k115_open hK
 exact⟨ad,e,hc 0 _ rfl,by rw[← add_field _ _ 1 (by omega)];exact hc 1 _ rfl⟩
end Go.Proofs.YtlmabbigfdbmbaaGreatDoor.PShelfNil
namespace Go.Proofs.YtlmabbigfdbmbaaGreatDoor.PShelfNil
open Go.RowKit Go.Proofs.YtlmabbigfdbmbaaGreatDoorW.PrintWords Go.Proofs.YtlmabbigfdbmbaaGreatDoorW.PrintLast Go.Proofs.YtlmabbigfdbmbaaGreatDoorW.PrintMore
attribute [local go_sem] max2_int min2_int max_two min_two max_three min_three max_four min_four
mutual
def digest_end.l0:Nat→Int→List Int→Option (ByteArray)
 | 0,_,_=>none
 | k+1,x0,x3=>if (Int.tmod (wrap64 (x0+(x3.length:Int))) 64)=56 then (digest_end.l1 k x3 (IntKind.u64.wrap ((IntKind.u64.wrap (x0)) * 8)) 0)else (if x3.length < 140737488355328 then (digest_end.l0 k x0 (x3 ++ [0]))else (none))
def digest_end.l1:Nat→List Int→Int→Int→Option (ByteArray)
 | 0,_,_,_=>none
 | k+1,x3,x4,x19=>if x19 < 8 then (if 0≤(wrap64 (56 - (wrap64 (8 * x19))))then (if x3.length < 140737488355328 then (digest_end.l1 k (x3 ++ [(shr .u64 x4 (wrap64 (56 - (wrap64 (8 * x19))))) % 256]) x4 (wrap64 (x19+1)))else (none))else (none))else (some (strOfNums x3))
end
def digest_end.f(k:Nat)(a0:Int):Option (ByteArray):=digest_end.l0 k a0 (([128]:List Int))
set_option maxHeartbeats 8000000 in
set_option maxRecDepth 100000 in
theorem digest_end.calls(k:Nat)(a0:Int)(r:ByteArray)(w:World)(h:digest_end.f k a0=some r) :
  Calls Tryz.prog 118 #[.int .i64 a0] w fun e w'=>e = .returned (.string r)∧Below w.heap.size w w':=by
 have HB:=Aside0.mk (Below.refl w.heap.size w)
 have H:(digest_end.l0 k a0 (([128]:List Int)))=some r:=h
 clear h
 obtain⟨y119,hy119⟩:∃ y_:List Int,y_=(([128]:List Int)):=⟨_,rfl⟩
 replace H:(digest_end.l0 k a0 y119)=some r:=by first | (rw[hy119];with_reducible exact H) | (have H2_:=(Option.bind_some _ _).symm.trans H;rw[hy119];with_reducible exact H2_) | (have H2_:=(Option.bind_some _ _).symm.trans H;with_reducible exact H2_) | with_reducible exact H | (rw[hy119];exact H) | exact H
 have Ny119:=Aside0.mk hy119
 clear hy119
 have H':=Aside0.mk H
 clear H
 go_enter Tryz.func118,Tryz.ntmps118
 go_wp2_with (first | ((with_reducible refine gate_dst (N:=6) rfl ?_);refine Kd.R_lit (Kd.int .u8) _ 5 ?hg (N:=6) ?hd (xs:=([128]:List Int)) (inner:=[.int .u8 128]) (ok:=fun _=>True) (okp:=fun _=>True) ?hr ?hp (fun _ hk=>hk) trivial (Below.refl _ _) (Nat.le_refl _) (by simp) ?_;(case hd=>rfl);(case hg=>rfl);(case hr=>first | (go_simp;done) | (go_simp;rfl));(case hp=>exact(Reps.one (show Kd.M (Kd.int .u8) _ _ _ 128 [.int .u8 128]from rfl) (Reps.none _ _)));intro v120 w2 ho3 hb hg_ hnew_;clear hg_ hnew_;(first | rw[← Ny119.out]at ho3 | (simp only[Int.reduceToNat]at ho3;rw[← Ny119.out]at ho3));have n0_:=Aside0.mk (Kd.R_lower ho3 (below_size (by repeat (first | (with_reducible first | exact HB.out | apply below_alloc | apply pw_below_drewN | apply below_drew1) | exact HB.out))));have n1_:=Aside0.mk (below_step (by repeat (first | (with_reducible first | exact HB.out | apply below_alloc | apply pw_below_drewN | apply below_drew1) | exact HB.out)) hb);clear HB;have HO121:=n0_;have HB:=n1_;clear n0_ n1_;clear hb ho3))
 go_loopg [3] k (fun kq v3 w'=>∃ (x3_1:List Int),Aside0 (digest_end.l0 kq a0 x3_1=some r)∧Aside0 (kq≤k)∧Aside0 (Kd.R (Kd.int .u8) 5 w' w.heap.size (fun _=>True) v3 x3_1)∧Aside0 (Below w.heap.size w w'))
 case atStart=>exact⟨(y119),H',⟨Nat.le_refl _⟩,⟨by (with_reducible repeat (first | apply Kd.R_alloc | apply Kd.R_drewN | apply Kd.R_drew));exact HO121.out⟩,⟨by repeat (first | (with_reducible first | exact HB.out | apply below_alloc | apply pw_below_drewN | apply below_drew1) | exact HB.out)⟩⟩
 case round=>
  clear H'
  try clear c1
  try clear p2
  obtain⟨x3_1,HA,HK1,HO_3,HB⟩:=hrel
  cases gk with
  | zero=>exact absurd HA.out (by simp[digest_end.l0])
  | succ k1=>
   have H:=HA.out
   clear HA
   simp only[digest_end.l0]at H
   by_cases c4:(Int.tmod (wrap64 (a0+(x3_1.length:Int))) 64)=56
   ·rw[if_pos c4]at H
    have c4b0:((Int.tmod (wrap64 (a0+(x3_1.length:Int))) 64) == 56)=true:=beq_iff_eq.mpr c4
    have c4b1:((Int.tmod (wrap64 (a0+(x3_1.length:Int))) 64) != 56)=false:=bne_eq_false_iff_eq.mpr c4
    clear c4
    have H':=Aside0.mk H
    clear H
    obtain⟨Ao5,co5,eo5⟩:=Kd.R_slice HO_3.out
    subst eo5
    go_wp2
    go_loopg [3,19] k1 (fun kq v3 v19 w'=>∃ (x3_2:List Int) (x19_2:Int),v19 = .int .i64 x19_2∧Aside0 (digest_end.l1 kq x3_2 (IntKind.u64.wrap ((IntKind.u64.wrap (a0)) * 8)) x19_2=some r)∧Aside0 (kq≤k1)∧Aside0 (Kd.R (Kd.int .u8) 5 w' w.heap.size (fun _=>True) v3 x3_2)∧Aside0 (Below w.heap.size w w'))
    case atStart=>exact⟨(x3_1),(0),(by first | rfl | (simp;done) | (simp[*];done)),H',⟨Nat.le_refl _⟩,⟨by (with_reducible repeat (first | apply Kd.R_alloc | apply Kd.R_drewN | apply Kd.R_drew));exact HO_3.out⟩,⟨by repeat (first | (with_reducible first | exact HB.out | apply below_alloc | apply pw_below_drewN | apply below_drew1) | exact HB.out)⟩⟩
    case round=>
     clear H'
     try clear c1
     try clear p2
     try clear c4
     try clear c4b0
     try clear c4b1
     try clear p2
     obtain⟨x3_2,x19_2,rfl,HA,HK2,HO_3,HB⟩:=hrel
     cases gk with
     | zero=>exact absurd HA.out (by simp[digest_end.l1])
     | succ k2=>
      have H:=HA.out
      clear HA
      simp only[digest_end.l1]at H
      by_cases c6:x19_2 < 8
      ·rw[if_pos c6]at H
       have c6b0:decide (x19_2 < 8)=true:=decide_eq_true c6
       clear c6
       obtain⟨ji7,hji7⟩:∃ j_:Int,(wrap64 (56 - (wrap64 (8 * x19_2))))=j_:=⟨_,rfl⟩
       replace H:(if 0≤(ji7)then (if x3_2.length < 140737488355328 then (digest_end.l1 k2 (x3_2 ++ [(shr .u64 (IntKind.u64.wrap ((IntKind.u64.wrap (a0)) * 8)) (ji7)) % 256]) (IntKind.u64.wrap ((IntKind.u64.wrap (a0)) * 8)) (wrap64 (x19_2+1)))else (none))else (none))=some r:=by first | (rw[hji7]at H;exact H) | (simp only[hji7]at H ⊢;exact H)
       have hji7w:(IntKind.i64.wrap (56 - (wrap64 (8 * x19_2))))=ji7:=(i64_w _).trans hji7
       by_cases c8:0≤(ji7)
       ·rw[if_pos c8]at H
        have c8b0:=eq_true c8
        have c8b1:decide (0≤(ji7))=true:=decide_eq_true c8
        clear c8
        obtain⟨ji9,hji9⟩:∃ j_:Int,(shr .u64 (IntKind.u64.wrap ((IntKind.u64.wrap (a0)) * 8)) (ji7))=j_:=⟨_,rfl⟩
        replace H:(if x3_2.length < 140737488355328 then (digest_end.l1 k2 (x3_2 ++ [(ji9) % 256]) (IntKind.u64.wrap ((IntKind.u64.wrap (a0)) * 8)) (wrap64 (x19_2+1)))else (none))=some r:=by first | (rw[hji9]at H;exact H) | (simp only[hji9]at H ⊢;exact H)
        have hji9_:((IntKind.u64.wrap ((IntKind.u64.wrap (a0)) * 8)) / 2 ^ min (ji7).toNat 64)=ji9:=hji9
        have hji9z:(ji7)≤64→((IntKind.u64.wrap ((IntKind.u64.wrap (a0)) * 8)) / 2 ^ (ji7).toNat)=ji9:=shr_small hji9
        by_cases c10:x3_2.length < 140737488355328
        ·rw[if_pos c10]at H
         have LMc10:=Aside0.mk c10
         clear c10
         obtain⟨y125,hy125⟩:∃ y_:List Int,y_=(x3_2 ++ [(ji9) % 256]):=⟨_,rfl⟩
         replace H:(digest_end.l1 k2 y125 (IntKind.u64.wrap ((IntKind.u64.wrap (a0)) * 8)) (wrap64 (x19_2+1)))=some r:=by first | (rw[hy125];with_reducible exact H) | (have H2_:=(Option.bind_some _ _).symm.trans H;rw[hy125];with_reducible exact H2_) | (have H2_:=(Option.bind_some _ _).symm.trans H;with_reducible exact H2_) | with_reducible exact H | (rw[hy125];exact H) | exact H
         have Ny125:=Aside0.mk hy125
         clear hy125
         have H':=Aside0.mk H
         clear H
         go_wp2_with (first | ((with_reducible refine gate_builtin (b:=.append) (xs:=#[.tmp 22,.tmp 29]) rfl ?_);at_builtin;refine Kd.R_append (Kd.int .u8) (w0:=w) w.heap.size rfl (.tmp 22) (.tmp 29) 129 5 (.int .u8 0) 1 rfl Tryz.underlying129 info5 rfl (by decide) (by omega) u3 x3_2 ((ji9) % 256) [.int .u8 ((ji9) % 256)] (fun _=>True) (fun _=>False) rfl rfl ?aP (fun _ hk=>hk.elim) ?aF ?aO ?aB ?aS ?aL ?_;(case aP=>exact rfl);(case aB=>exact(by repeat (first | (with_reducible first | exact HB.out | apply below_alloc | apply pw_below_drewN | apply below_drew1) | exact HB.out)));(case aF=>exact(fun _ _=>trivial));(case aO=>exact(by (with_reducible repeat (first | apply Kd.R_alloc | apply Kd.R_drewN | apply Kd.R_drew));exact HO_3.out));(case aS=>exact(below_size (by repeat (first | (with_reducible first | exact HB.out | apply below_alloc | apply pw_below_drewN | apply below_drew1) | exact HB.out))));(case aL=>have:=LMc10.out;omega);intro v126 w11 ho hb hg hat;rw[← Ny125.out]at ho;have n0_:=Aside0.mk (hb);have n1_:=Aside0.mk (ho);clear HB;clear HO_3;have HB:=n0_;have HO127:=n1_;clear n0_ n1_;clear ho hb hg hat))
         go_roundg k2
         case measure=>have:=HK1.out;have:=HK2.out;omega
         case rel=>exact⟨(y125),(wrap64 (x19_2+1)),(by first | rfl | (simp;done) | (simp[*];done)),H',⟨by have:=HK1.out;have:=HK2.out;omega⟩,⟨by (with_reducible repeat (first | apply Kd.R_alloc | apply Kd.R_drewN | apply Kd.R_drew));exact HO127.out⟩,⟨by repeat (first | (with_reducible first | exact HB.out | apply below_alloc | apply pw_below_drewN | apply below_drew1) | exact HB.out)⟩⟩
        ·rw[if_neg c10]at H
         exact absurd H (by simp)
       ·rw[if_neg c8]at H
        exact absurd H (by simp)
      ·rw[if_neg c6]at H
       have c6b0:decide (x19_2 < 8)=false:=decide_eq_false c6
       clear c6
       obtain rfl:=Option.some.inj H
       have hcv12:=own_string (P:=Tryz.prog) Tryz.underlying129 Tryz.underlying5 Tryz.underlying9 (Kd.own_of_R HO_3.out)
       go_wp2
       go_ret
       exact⟨by first | rfl | (simp[errW_none,errW_some]<;>rfl) | (simp[*,errW_none,errW_some]<;>rfl),by repeat (first | (with_reducible first | exact HB.out | apply below_alloc | apply pw_below_drewN | apply below_drew1) | exact HB.out)⟩
   ·rw[if_neg c4]at H
    have c4b0:((Int.tmod (wrap64 (a0+(x3_1.length:Int))) 64) == 56)=false:=beq_eq_false_iff_ne.mpr c4
    have c4b1:((Int.tmod (wrap64 (a0+(x3_1.length:Int))) 64) != 56)=true:=bne_iff_ne.mpr c4
    by_cases c13:x3_1.length < 140737488355328
    ·rw[if_pos c13]at H
     have LMc13:=Aside0.mk c13
     clear c13
     obtain⟨y122,hy122⟩:∃ y_:List Int,y_=(x3_1 ++ [0]):=⟨_,rfl⟩
     replace H:(digest_end.l0 k1 a0 y122)=some r:=by first | (rw[hy122];with_reducible exact H) | (have H2_:=(Option.bind_some _ _).symm.trans H;rw[hy122];with_reducible exact H2_) | (have H2_:=(Option.bind_some _ _).symm.trans H;with_reducible exact H2_) | with_reducible exact H | (rw[hy122];exact H) | exact H
     have Ny122:=Aside0.mk hy122
     clear hy122
     have H':=Aside0.mk H
     clear H
     obtain⟨Ao14,co14,eo14⟩:=Kd.R_slice HO_3.out
     subst eo14
     go_wp2_with (first | ((with_reducible refine gate_builtin (b:=.append) (xs:=#[.tmp 13,.tmp 14]) rfl ?_);at_builtin;refine Kd.R_append (Kd.int .u8) (w0:=w) w.heap.size rfl (.tmp 13) (.tmp 14) 129 5 (.int .u8 0) 1 rfl Tryz.underlying129 info5 rfl (by decide) (by omega) (.slice Ao14 x3_1.length co14) x3_1 0 [.int .u8 0] (fun _=>True) (fun _=>False) rfl rfl ?aP (fun _ hk=>hk.elim) ?aF ?aO ?aB ?aS ?aL ?_;(case aP=>exact rfl);(case aB=>exact(by repeat (first | (with_reducible first | exact HB.out | apply below_alloc | apply pw_below_drewN | apply below_drew1) | exact HB.out)));(case aF=>exact(fun _ _=>trivial));(case aO=>exact(by (with_reducible repeat (first | apply Kd.R_alloc | apply Kd.R_drewN | apply Kd.R_drew));exact HO_3.out));(case aS=>exact(below_size (by repeat (first | (with_reducible first | exact HB.out | apply below_alloc | apply pw_below_drewN | apply below_drew1) | exact HB.out))));(case aL=>have:=LMc13.out;omega);intro v123 w15 ho hb hg hat;rw[← Ny122.out]at ho;have n0_:=Aside0.mk (hb);have n1_:=Aside0.mk (ho);clear HB;clear HO_3;have HB:=n0_;have HO124:=n1_;clear n0_ n1_;clear ho hb hg hat))
     go_roundg k1
     case measure=>have:=HK1.out;omega
     case rel=>exact⟨(y122),H',⟨by have:=HK1.out;omega⟩,⟨by (with_reducible repeat (first | apply Kd.R_alloc | apply Kd.R_drewN | apply Kd.R_drew));exact HO124.out⟩,⟨by repeat (first | (with_reducible first | exact HB.out | apply below_alloc | apply pw_below_drewN | apply below_drew1) | exact HB.out)⟩⟩
    ·rw[if_neg c13]at H
     exact absurd H (by simp)
def cell_Text.f(a0:ByteArray):Option (Int × Int × ByteArray × (List (S32))):=some (2,0,a0,([]:List (S32)))
set_option maxHeartbeats 8000000 in
set_option maxRecDepth 100000 in
theorem cell_Text.calls(a0:ByteArray)(r1:Int)(r2:Int)(r3:ByteArray)(r4:List (S32))(w:World)(h:cell_Text.f a0=some (r1,r2,r3,r4)) :
  Calls Tryz.prog 93 #[.string a0] w fun e w'=>∃ v3_:Value,e = .returned (.agg #[.int .i64 r1,.int .i64 r2,.string r3,v3_])∧Kd.R k32 32 w' w.heap.size (fun _=>True) v3_ r4∧Below w.heap.size w w':=by
 have hu32:=Tryz.underlying32
 have HB:=Aside0.mk (Below.refl w.heap.size w)
 have H:(some (2,0,a0,([]:List (S32))))=some (r1,r2,r3,r4):=h
 clear h
 simp only[Option.some.injEq,Prod.mk.injEq]at H
 obtain⟨rfl,rfl,rfl,rfl⟩:=H
 go_enter Tryz.func93,Tryz.ntmps93
 go_wp2_with (first | ((with_reducible refine gate_dst (N:=2) rfl ?_);refine box_event ?hg (N:=2) ?hd (cs:=#[.int .i64 0,.int .i64 0,.string (⟨#[]⟩:ByteArray),.slice none 0 0]) (t:=32) ?hr ?_;(case hd=>rfl);(case hg=>rfl);(case hr=>first | (go_simp;done) | (go_simp;rfl));intro gb128 hg w2 hbox hb;have n0_:=Aside0.mk (below_step (by repeat (first | (with_reducible first | exact HB.out | apply below_alloc | apply pw_below_drewN | apply below_drew1) | exact HB.out)) hb);have n1_:=Aside0.mk (hbox);have n2_:=Aside0.mk ((by rw[hg];exact(below_size (by repeat (first | (with_reducible first | exact HB.out | apply below_alloc | apply pw_below_drewN | apply below_drew1) | exact HB.out))):w.heap.size≤gb128));have n3_:=Aside0.mk ((by rw[hg];exact(below_size (by repeat (first | (with_reducible first | exact HB.out | apply below_alloc | apply pw_below_drewN | apply below_drew1) | exact HB.out))):w.heap.size≤gb128));clear HB;have HB:=n0_;have BK128:=n1_;have GW128:=n2_;have GE128:=n3_;clear n0_ n1_ n2_ n3_;clear hb hbox hg;have hcz3_0:w2.cell? ⟨gb128,0,none⟩=some (.int .i64 0):=(blk_cell BK128.out 0).trans rfl;have hcz3_1:w2.cell? ⟨gb128,1,none⟩=some (.int .i64 0):=(blk_cell BK128.out 1).trans rfl;have hcz3_2:w2.cell? ⟨gb128,2,none⟩=some (.string (⟨#[]⟩:ByteArray)):=(blk_cell BK128.out 2).trans rfl;have hcz3_3:w2.cell? ⟨gb128,3,none⟩=some (.slice none 0 0):=(blk_cell BK128.out 3).trans rfl;have hfz3_0:=blk_frozen BK128.out 0;have hfz3_1:=blk_frozen BK128.out 1;have hfz3_2:=blk_frozen BK128.out 2;have hfz3_3:=blk_frozen BK128.out 3))
 refine bodyPost_ret (results_cell_row rfl _ _ gb128 32 #[.int .i64 2,.int .i64 0,.string a0,.slice none 0 0] (0,0) _ rfl (by (with_reducible repeat (first | refine blk_drewN ?_ _ | refine blk_drew ?_ | refine blk_alloc ?_ _));refine blk_put (cs:=#[.int .i64 2,.int .i64 0,.string a0,.slice none 0 0]) ?_ 3 _ rfl;(with_reducible repeat (first | refine blk_drewN ?_ _ | refine blk_drew ?_ | refine blk_alloc ?_ _));refine blk_put (cs:=#[.int .i64 2,.int .i64 0,.string (⟨#[]⟩:ByteArray),.slice none 0 0]) ?_ 2 _ rfl;(with_reducible repeat (first | refine blk_drewN ?_ _ | refine blk_drew ?_ | refine blk_alloc ?_ _));refine blk_put (cs:=#[.int .i64 2,.int .i64 0,.string (⟨#[]⟩:ByteArray),.slice none 0 0]) ?_ 1 _ rfl;(with_reducible repeat (first | refine blk_drewN ?_ _ | refine blk_drew ?_ | refine blk_alloc ?_ _));refine blk_put (cs:=#[.int .i64 0,.int .i64 0,.string (⟨#[]⟩:ByteArray),.slice none 0 0]) ?_ 0 _ rfl;(with_reducible repeat (first | refine blk_drewN ?_ _ | refine blk_drew ?_ | refine blk_alloc ?_ _));exact BK128.out) Tryz.underlying32 rfl (by kernel_rfl)) rfl ?_
 exact⟨_,by first | rfl | (simp[errW_none,errW_some]<;>rfl) | (simp[*,errW_none,errW_some]<;>rfl),by first | exact Kd.R_nil _ _ _ _ _ | exact Kd.N_nil _ _ _ _ _ | exact Kd.V_nil _ _ _ _ _ | exact Kd.Q_nil _ _ _ _ _ | exact Kd.S_nil _ _ _ _ _,by repeat (first | (with_reducible first | exact HB.out | apply below_alloc | apply pw_below_drewN | apply below_drew1 | refine below_set ?_ GE128.out) | exact HB.out)⟩
def cell_Num.f(a0:Int):Option (Int × Int × ByteArray × (List (S32))):=some (1,a0,(⟨#[]⟩:ByteArray),([]:List (S32)))
set_option maxHeartbeats 8000000 in
set_option maxRecDepth 100000 in
theorem cell_Num.calls(a0:Int)(r1:Int)(r2:Int)(r3:ByteArray)(r4:List (S32))(w:World)(h:cell_Num.f a0=some (r1,r2,r3,r4)) :
  Calls Tryz.prog 184 #[.int .i64 a0] w fun e w'=>∃ v3_:Value,e = .returned (.agg #[.int .i64 r1,.int .i64 r2,.string r3,v3_])∧Kd.R k32 32 w' w.heap.size (fun _=>True) v3_ r4∧Below w.heap.size w w':=by
 have hu32:=Tryz.underlying32
 have HB:=Aside0.mk (Below.refl w.heap.size w)
 have H:(some (1,a0,(⟨#[]⟩:ByteArray),([]:List (S32))))=some (r1,r2,r3,r4):=h
 clear h
 simp only[Option.some.injEq,Prod.mk.injEq]at H
 obtain⟨rfl,rfl,rfl,rfl⟩:=H
 go_enter Tryz.func184,Tryz.ntmps184
 go_wp2_with (first | ((with_reducible refine gate_dst (N:=2) rfl ?_);refine box_event ?hg (N:=2) ?hd (cs:=#[.int .i64 0,.int .i64 0,.string (⟨#[]⟩:ByteArray),.slice none 0 0]) (t:=32) ?hr ?_;(case hd=>rfl);(case hg=>rfl);(case hr=>first | (go_simp;done) | (go_simp;rfl));intro gb129 hg w2 hbox hb;have n0_:=Aside0.mk (below_step (by repeat (first | (with_reducible first | exact HB.out | apply below_alloc | apply pw_below_drewN | apply below_drew1) | exact HB.out)) hb);have n1_:=Aside0.mk (hbox);have n2_:=Aside0.mk ((by rw[hg];exact(below_size (by repeat (first | (with_reducible first | exact HB.out | apply below_alloc | apply pw_below_drewN | apply below_drew1) | exact HB.out))):w.heap.size≤gb129));have n3_:=Aside0.mk ((by rw[hg];exact(below_size (by repeat (first | (with_reducible first | exact HB.out | apply below_alloc | apply pw_below_drewN | apply below_drew1) | exact HB.out))):w.heap.size≤gb129));clear HB;have HB:=n0_;have BK129:=n1_;have GW129:=n2_;have GE129:=n3_;clear n0_ n1_ n2_ n3_;clear hb hbox hg;have hcz3_0:w2.cell? ⟨gb129,0,none⟩=some (.int .i64 0):=(blk_cell BK129.out 0).trans rfl;have hcz3_1:w2.cell? ⟨gb129,1,none⟩=some (.int .i64 0):=(blk_cell BK129.out 1).trans rfl;have hcz3_2:w2.cell? ⟨gb129,2,none⟩=some (.string (⟨#[]⟩:ByteArray)):=(blk_cell BK129.out 2).trans rfl;have hcz3_3:w2.cell? ⟨gb129,3,none⟩=some (.slice none 0 0):=(blk_cell BK129.out 3).trans rfl;have hfz3_0:=blk_frozen BK129.out 0;have hfz3_1:=blk_frozen BK129.out 1;have hfz3_2:=blk_frozen BK129.out 2;have hfz3_3:=blk_frozen BK129.out 3))
 refine bodyPost_ret (results_cell_row rfl _ _ gb129 32 #[.int .i64 1,.int .i64 a0,.string (⟨#[]⟩:ByteArray),.slice none 0 0] (0,0) _ rfl (by (with_reducible repeat (first | refine blk_drewN ?_ _ | refine blk_drew ?_ | refine blk_alloc ?_ _));refine blk_put (cs:=#[.int .i64 1,.int .i64 a0,.string (⟨#[]⟩:ByteArray),.slice none 0 0]) ?_ 3 _ rfl;(with_reducible repeat (first | refine blk_drewN ?_ _ | refine blk_drew ?_ | refine blk_alloc ?_ _));refine blk_put (cs:=#[.int .i64 1,.int .i64 a0,.string (⟨#[]⟩:ByteArray),.slice none 0 0]) ?_ 2 _ rfl;(with_reducible repeat (first | refine blk_drewN ?_ _ | refine blk_drew ?_ | refine blk_alloc ?_ _));refine blk_put (cs:=#[.int .i64 1,.int .i64 0,.string (⟨#[]⟩:ByteArray),.slice none 0 0]) ?_ 1 _ rfl;(with_reducible repeat (first | refine blk_drewN ?_ _ | refine blk_drew ?_ | refine blk_alloc ?_ _));refine blk_put (cs:=#[.int .i64 0,.int .i64 0,.string (⟨#[]⟩:ByteArray),.slice none 0 0]) ?_ 0 _ rfl;(with_reducible repeat (first | refine blk_drewN ?_ _ | refine blk_drew ?_ | refine blk_alloc ?_ _));exact BK129.out) Tryz.underlying32 rfl (by kernel_rfl)) rfl ?_
 exact⟨_,by first | rfl | (simp[errW_none,errW_some]<;>rfl) | (simp[*,errW_none,errW_some]<;>rfl),by first | exact Kd.R_nil _ _ _ _ _ | exact Kd.N_nil _ _ _ _ _ | exact Kd.V_nil _ _ _ _ _ | exact Kd.Q_nil _ _ _ _ _ | exact Kd.S_nil _ _ _ _ _,by repeat (first | (with_reducible first | exact HB.out | apply below_alloc | apply pw_below_drewN | apply below_drew1 | refine below_set ?_ GE129.out) | exact HB.out)⟩
end Go.Proofs.YtlmabbigfdbmbaaGreatDoor.PShelfNil
namespace Go.Proofs.YtlmabbigfdbmbaaGreatDoor.Sha
open Go
def u(x:BitVec 32):Int:=(x.toNat:Int)
def U(x:BitVec 32):Value:=.int .u32 (u x)
theorem u_lt(x:BitVec 32):u x < 4294967296:=by have:=x.isLt;unfold u;omega
theorem u_ge(x:BitVec 32):0≤u x:=by unfold u;omega
theorem wrap_u(x:BitVec 32):IntKind.u32.wrap (u x)=u x:=by
 rw[IntKind.wrap_u32];have:=u_lt x;have:=u_ge x;omega
theorem bits_xor(a b:BitVec 32):bits .xor .u32 (u a) (u b)=u (a ^^^ b):=by
 have h:bits .xor .u32 (u a) (u b)=IntKind.u32.wrap ((BitVec.ofInt 32 (u a) ^^^ BitVec.ofInt 32 (u b)).toNat:Int):=rfl
 rw[h];simp only[u,BitVec.ofInt_natCast,BitVec.ofNat_toNat,BitVec.setWidth_eq];exact wrap_u _
theorem bits_and(a b:BitVec 32):bits .and .u32 (u a) (u b)=u (a &&& b):=by
 have h:bits .and .u32 (u a) (u b)=IntKind.u32.wrap ((BitVec.ofInt 32 (u a) &&& BitVec.ofInt 32 (u b)).toNat:Int):=rfl
 rw[h];simp only[u,BitVec.ofInt_natCast,BitVec.ofNat_toNat,BitVec.setWidth_eq];exact wrap_u _
theorem bits_or(a b:BitVec 32):bits .or .u32 (u a) (u b)=u (a ||| b):=by
 have h:bits .or .u32 (u a) (u b)=IntKind.u32.wrap ((BitVec.ofInt 32 (u a) ||| BitVec.ofInt 32 (u b)).toNat:Int):=rfl
 rw[h];simp only[u,BitVec.ofInt_natCast,BitVec.ofNat_toNat,BitVec.setWidth_eq];exact wrap_u _
theorem u_ones:(4294967295:Int)=u (BitVec.allOnes 32):=by decide
theorem bits_not(a:BitVec 32):bits .xor .u32 4294967295 (u a)=u (~~~a):=by
 rw[u_ones,bits_xor,BitVec.allOnes_xor]
theorem wrap_add(a b:BitVec 32):IntKind.u32.wrap (u a+u b)=u (a+b):=by
 unfold u;rw[IntKind.wrap_u32,BitVec.toNat_add];omega
theorem shr_nat(a:BitVec 32)(n:Nat):u a / 2 ^ n=u (a >>> n):=by
 unfold u;rw[BitVec.toNat_ushiftRight,Nat.shiftRight_eq_div_pow];simp
theorem shr_3(a:BitVec 32):u a / (8:Int)=u (a >>> 3):=shr_nat a 3
theorem shr_10(a:BitVec 32):u a / (1024:Int)=u (a >>> 10):=shr_nat a 10
theorem shl_nat(a:BitVec 32)(n:Nat):IntKind.u32.wrap (u a * 2 ^ n)=u (a <<< n):=by
 unfold u;rw[IntKind.wrap_u32,BitVec.toNat_shiftLeft,Nat.shiftLeft_eq];simp
def ofByte(b:UInt8):BitVec 32:=BitVec.ofNat 32 b.toNat
theorem ofByte_u(b:UInt8):u (ofByte b)=(b.toNat:Int):=by
 have:b.toNat < 256:=b.toNat_lt
 simp only[u,ofByte,BitVec.toNat_ofNat];omega
def rotr(x:BitVec 32)(n:Nat):BitVec 32:=(x >>> n) ||| (x <<< (32 - n))
def ch(e f g:BitVec 32):BitVec 32:=(e &&& f) ^^^ (~~~e &&& g)
def maj(a b c:BitVec 32):BitVec 32:=(a &&& b) ^^^ (a &&& c) ^^^ (b &&& c)
theorem maj_eq(a b c:BitVec 32):(a &&& (b ^^^ c)) ^^^ (b &&& c)=maj a b c:=by
 unfold maj;ext i hi;simp;cases a[i]<;>cases b[i]<;>cases c[i]<;>rfl
def S1(e:BitVec 32):BitVec 32:=rotr e 6 ^^^ rotr e 11 ^^^ rotr e 25
def S0(a:BitVec 32):BitVec 32:=rotr a 2 ^^^ rotr a 13 ^^^ rotr a 22
def s0(x:BitVec 32):BitVec 32:=rotr x 7 ^^^ rotr x 18 ^^^ (x >>> 3)
def s1(x:BitVec 32):BitVec 32:=rotr x 17 ^^^ rotr x 19 ^^^ (x >>> 10)
def K:List (BitVec 32):=[
 0x428a2f98,0x71374491,0xb5c0fbcf,0xe9b5dba5,0x3956c25b,0x59f111f1,0x923f82a4,0xab1c5ed5,
 0xd807aa98,0x12835b01,0x243185be,0x550c7dc3,0x72be5d74,0x80deb1fe,0x9bdc06a7,0xc19bf174,
 0xe49b69c1,0xefbe4786,0x0fc19dc6,0x240ca1cc,0x2de92c6f,0x4a7484aa,0x5cb0a9dc,0x76f988da,
 0x983e5152,0xa831c66d,0xb00327c8,0xbf597fc7,0xc6e00bf3,0xd5a79147,0x06ca6351,0x14292967,
 0x27b70a85,0x2e1b2138,0x4d2c6dfc,0x53380d13,0x650a7354,0x766a0abb,0x81c2c92e,0x92722c85,
 0xa2bfe8a1,0xa81a664b,0xc24b8b70,0xc76c51a3,0xd192e819,0xd6990624,0xf40e3585,0x106aa070,
 0x19a4c116,0x1e376c08,0x2748774c,0x34b0bcb5,0x391c0cb3,0x4ed8aa4a,0x5b9cca4f,0x682e6ff3,
 0x748f82ee,0x78a5636f,0x84c87814,0x8cc70208,0x90befffa,0xa4506ceb,0xbef9a3f7,0xc67178f2]
theorem K_len:K.length=64:=rfl
def number(l:List UInt8)(at_:Nat):BitVec 32:=
 (ofByte (l.getD at_ 0) <<< 24) ||| (ofByte (l.getD (at_+1) 0) <<< 16) ||| (ofByte (l.getD (at_+2) 0) <<< 8) ||| ofByte (l.getD (at_+3) 0)
def next(l:List UInt8)(ws:List (BitVec 32))(i:Nat):BitVec 32:=
 if i < 16 then number l (4 * i)
 else s1 (ws.getD (i - 2) 0)+ws.getD (i - 7) 0+s0 (ws.getD (i - 15) 0)+ws.getD (i - 16) 0
def words(l:List UInt8):Nat→List (BitVec 32)
 | 0=>[]
 | n+1=>words l n ++ [next l (words l n) n]
theorem words_len(l:List UInt8)(n:Nat):(words l n).length=n:=by
 induction n with
 | zero=>rfl
 | succ n ih=>simp[words,ih]
structure S8 where
 a:BitVec 32
 b:BitVec 32
 c:BitVec 32
 d:BitVec 32
 e:BitVec 32
 f:BitVec 32
 g:BitVec 32
 h:BitVec 32
def S8.cells(x:S8):List Value:=[U x.a,U x.b,U x.c,U x.d,U x.e,U x.f,U x.g,U x.h]
def S8.add(x y:S8):S8:=⟨x.a+y.a,x.b+y.b,x.c+y.c,x.d+y.d,x.e+y.e,x.f+y.f,x.g+y.g,x.h+y.h⟩
def step(x:S8)(k w:BitVec 32):S8:=
 ⟨x.h+S1 x.e+ch x.e x.f x.g+k+w+(S0 x.a+maj x.a x.b x.c),x.a,x.b,x.c,x.d+(x.h+S1 x.e+ch x.e x.f x.g+k+w),x.e,x.f,x.g⟩
def rounds(x:S8)(ws:List (BitVec 32)):Nat→S8
 | 0=>x
 | i+1=>step (rounds x ws i) (K.getD i 0) (ws.getD i 0)
def turn(x:S8)(l:List UInt8):S8:=x.add (rounds x (words l 64) 64)
def run(x:S8):Nat→List UInt8→S8
 | 0,_=>x
 | n+1,l=>run (turn x (l.take 64)) n (l.drop 64)
def init:S8:=⟨0x6a09e667,0xbb67ae85,0x3c6ef372,0xa54ff53a,0x510e527f,0x9b05688c,0x1f83d9ab,0x5be0cd19⟩
def bytesOf(x:BitVec 32):List UInt8:=[UInt8.ofNat (x.toNat / 2 ^ 24),UInt8.ofNat (x.toNat / 2 ^ 16),UInt8.ofNat (x.toNat / 2 ^ 8),UInt8.ofNat x.toNat]
def S8.bytes(x:S8):List UInt8:=bytesOf x.a++bytesOf x.b++bytesOf x.c++bytesOf x.d++bytesOf x.e++bytesOf x.f++bytesOf x.g++bytesOf x.h
def tail(n:Nat):List UInt8:=
 [0x80]++List.replicate ((119 - n % 64) % 64) 0++(List.range 8).map fun i=>UInt8.ofNat (n * 8 / 2 ^ (56 - 8 * i))
def sum(l:List UInt8):List UInt8:=(run init ((l.length+(tail l.length).length) / 64) (l++tail l.length)).bytes
theorem run_add(x:S8)(n m:Nat):∀ l:List UInt8,run x (n+m) l=run (run x n l) m (l.drop (64 * n)):=by
 induction n generalizing x with
 | zero=>intro l;simp[run]
 | succ n ih=>
  intro l
  rw[show n+1+m=(n+m)+1 by omega]
  simp only[run]
  rw[ih]
  simp only[List.drop_drop]
  rw[show 64+64 * n=64 * (n+1)by omega]
theorem run_pre(x:S8)(n:Nat):∀ l r:List UInt8,64 * n≤l.length→run x n (l++r)=run x n l:=by
 induction n generalizing x with
 | zero=>intro l r _;rfl
 | succ n ih=>
  intro l r h
  simp only[run]
  rw[List.take_append_of_le_length (by omega),List.drop_append_of_le_length (by omega),ih _ _ _ (by simp;omega)]
theorem tail_len(n:Nat):(tail n).length=9+(119 - n % 64) % 64:=by simp[tail];omega
theorem sum_len(l:List UInt8):(sum l).length=32:=rfl
end Go.Proofs.YtlmabbigfdbmbaaGreatDoor.Sha
namespace Go.Proofs.YtlmabbigfdbmbaaGreatDoor.Dig
open Go.RowKit Go.Proofs.YtlmabbigfdbmbaaGreatDoor.Sha Go.Proofs.YtlmabbigfdbmbaaGreatDoor.Base
theorem mask_all:∀ n:Fin 32,0 < n.val→bits .and .u64 (IntKind.u64.wrap (-(n.val:Int))) 31=((32 - n.val:Nat):Int):=by decide +kernel
theorem mask_of(m n:Nat)(hn:0 < n∧n < 32)(hm:m+n=32):bits .and .u64 (IntKind.u64.wrap (-(n:Int))) 31=(m:Int):=by
 have:=mask_all ⟨n,hn.2⟩ hn.1;rw[this];simp;omega
set_option maxHeartbeats 8000000 in
theorem rotl_any(x:BitVec 32)(m n:Nat)(w:World)(h0:0 < n)(hn:n < 32)(hm:m+n=32) :
  Calls Tryz.prog 200 #[.int .u32 (u x),.int .i64 (-(n:Int))] w fun e w'=>e = .returned (.int .u32 (u (rotr x n)))∧w=w':=by
 have hb:=mask_of m n ⟨h0,hn⟩ hm
 have h1:(32:Int) - (m:Int)=(n:Int):=by omega
 have h2:IntKind.u32.wrap (u x * 2 ^ m)=u (x <<< m):=shl_nat x m
 have h3:u x / 2 ^ n=u (x >>> n):=shr_nat x n
 have h4:=bits_or (x <<< m) (x >>> n)
 have h5:((x <<< m) ||| (x >>> n))=rotr x n:=by unfold rotr;rw[BitVec.or_comm];congr 2;omega
 rw[h5]at h4
 have H:=Lib.hid hm
 clear hm h5
 go_enter Tryz.func200,Tryz.ntmps200
 go_wp2
 go_ret
 exact⟨rfl,rfl⟩
set_option maxHeartbeats 8000000 in
theorem right_any(x:BitVec 32)(n:Nat)(w:World)(h0:0 < n)(hn:n < 32) :
  Calls Tryz.prog 180 #[.int .u32 (u x),.int .i64 (n:Int)] w fun e w'=>e = .returned (.int .u32 (u (rotr x n)))∧w=w':=by
 go_enter Tryz.func180,Tryz.ntmps180
 go_wp2_with (go_at_call 200;refine(rotl_any x (32 - n) n _ h0 hn (by omega)).mono ?_;rintro e w' ⟨rfl,rfl⟩)
 go_ret
 exact⟨rfl,rfl⟩
theorem right_2(x:BitVec 32)(w:World):Calls Tryz.prog 180 #[.int .u32 (u x),.int .i64 2] w fun e w'=>e = .returned (.int .u32 (u (rotr x 2)))∧w'=w:=
 (right_any x 2 w (by omega) (by omega)).mono fun _ _ h=>⟨h.1,h.2.symm⟩
theorem right_6(x:BitVec 32)(w:World):Calls Tryz.prog 180 #[.int .u32 (u x),.int .i64 6] w fun e w'=>e = .returned (.int .u32 (u (rotr x 6)))∧w'=w:=
 (right_any x 6 w (by omega) (by omega)).mono fun _ _ h=>⟨h.1,h.2.symm⟩
theorem right_11(x:BitVec 32)(w:World):Calls Tryz.prog 180 #[.int .u32 (u x),.int .i64 11] w fun e w'=>e = .returned (.int .u32 (u (rotr x 11)))∧w'=w:=
 (right_any x 11 w (by omega) (by omega)).mono fun _ _ h=>⟨h.1,h.2.symm⟩
theorem right_13(x:BitVec 32)(w:World):Calls Tryz.prog 180 #[.int .u32 (u x),.int .i64 13] w fun e w'=>e = .returned (.int .u32 (u (rotr x 13)))∧w'=w:=
 (right_any x 13 w (by omega) (by omega)).mono fun _ _ h=>⟨h.1,h.2.symm⟩
theorem right_22(x:BitVec 32)(w:World):Calls Tryz.prog 180 #[.int .u32 (u x),.int .i64 22] w fun e w'=>e = .returned (.int .u32 (u (rotr x 22)))∧w'=w:=
 (right_any x 22 w (by omega) (by omega)).mono fun _ _ h=>⟨h.1,h.2.symm⟩
theorem right_25(x:BitVec 32)(w:World):Calls Tryz.prog 180 #[.int .u32 (u x),.int .i64 25] w fun e w'=>e = .returned (.int .u32 (u (rotr x 25)))∧w'=w:=
 (right_any x 25 w (by omega) (by omega)).mono fun _ _ h=>⟨h.1,h.2.symm⟩
end Go.Proofs.YtlmabbigfdbmbaaGreatDoor.Dig
namespace Go.Proofs.YtlmabbigfdbmbaaGreatDoor.Dig
open Go.RowKit Go.Proofs.YtlmabbigfdbmbaaGreatDoor.Sha Go.Proofs.YtlmabbigfdbmbaaGreatDoor.Base
def Us(l:List (BitVec 32)):List Value:=l.map U
set_option maxHeartbeats 8000000 in
theorem begin_any(w:World) :
  Calls Tryz.prog 115 #[] w fun e w'=>e = .returned (.agg init.cells.toArray)∧Below w.heap.size w w':=by
 go_enter Tryz.func115,Tryz.ntmps115
 go_wp2
 exact bodyPost_ret (v:=.agg init.cells.toArray) (by simp[results,Tryz.results115,go_sem];rfl) rfl ⟨rfl,(Below.refl _ _).alloc (Nat.le_refl _) _⟩
theorem wpList_build_as{P:Program}{ops:Array Oper}{rest:List Oper}{o:Oper}{a:Act}{w:World}{Q:Exit→Act→World→Prop}(hg:o.guard=none)(t:TypeId)(parts:Array (Nat × Operand))(ho:o.op = .build t parts)
  (cells:Array Value) (hf:P.built t (parts.map fun(i,x)=>(i,a.eval x)).toList=some cells)
  (h:wpList P ops Q rest (a.put o.dst (.agg cells)) w):wpList P ops Q (o :: rest) a w:=by
 refine wpList_build hg t parts ho (by rw[hf];rfl) ?_
 rw[hf];exact h
theorem info109:(Tryz.prog.info? 250).map (·.size)=some 64:=by kernel_rfl
theorem all_K:(Us K).toArray.all (·.oneCell')=true:=by decide +kernel
set_option maxRecDepth 100000 in
set_option maxHeartbeats 8000000 in
theorem numbers_any(w:World) :
  Calls Tryz.prog 152 #[] w fun e w'=>e = .returned (.agg (Us K).toArray)∧Below w.heap.size w w':=by
 go_enter Tryz.func152,Tryz.ntmps152
 go_wp2_with (first
  | (refine wpList_build_as rfl 250 _ rfl (Us K).toArray (by kernel_rfl) ?_)
  | (refine wpList_store_row rfl 250 _ _ rfl w.heap.size (Us K).toArray rfl rfl 250 _ (heap_alloc_last w _) info109 rfl all_K ?_))
 rw[World.setRow_alloc_new]
 refine bodyPost_ret (v:=.agg (Us K).toArray) (results_cell_row rfl _ _ w.heap.size 250 _ (0,0) _ rfl (heap_alloc_last w _) Tryz.underlying250 rfl info109) rfl ⟨rfl,(Below.refl _ _).alloc (Nat.le_refl _) _⟩
theorem getD_cells(l:List (BitVec 32))(i:Nat)(h:i < l.length):(Us l)[i]? = some (U (l.getD i 0)):=by
 simp[Us,List.getD_eq_getElem?_getD,List.getElem?_eq_getElem h]
theorem run_index_Us{P:Program}(t e:TypeId)(n:Nat)(l:List (BitVec 32))(i:Nat)(hu:P.underlying t=some (.array n e))(he:(P.info? e).map (·.size)=some 1)(hag:P.underlying e=some (.int .u32))(hl:l.length=n)(hi:i < n)(w:World) :
  (Instr.index t (.agg (Us l).toArray) (.int .i64 (i:Int))).run P w = .ok (U (l.getD i 0)) w:=by
 cases hq:P.info? e with
 | none=>simp[hq]at he
 | some inf=>
  have hs:inf.size=1:=by simpa [hq] using he
  have hg:=getD_cells l i (by omega)
  have hb:(i:Int) < (n:Int):=by omega
  simp only[Instr.index,asIntOf,Sem.run_bind,run_underlying hu,Sem.run_pure,Result.andThen_ok]
  rw[if_pos ⟨by omega,hb⟩]
  simp[Sem.run_bind,sizeOf,typeInfo,hq,hs,part,isAgg,run_underlying hag,hg]
theorem run_index_str{P:Program}(t:TypeId)(s:ByteArray)(q:Nat)(hu:P.underlying t=some .string)(hq:q < s.size)(w:World) :
  (Instr.index t (.string s) (.int .i64 (q:Int))).run P w = .ok (.int .u8 ((s.data.toList.getD q 0).toNat:Int)) w:=by
 rw[run_index_string w t s .i64 q hu,dif_pos ⟨by omega,by omega⟩]
 have e:s[(q:Int).toNat]'(by omega)=s.data.toList.getD q 0:=by
  have h:q < s.data.toList.length:=by simpa using hq
  rw[List.getD_eq_getElem?_getD,List.getElem?_eq_getElem h];rfl
 rw[e]
theorem Us_all(l:List (BitVec 32)):(Us l).toArray.all (·.oneCell')=true:=Array.all_eq_true_iff_forall_mem.2 (fun v hv=>by
 obtain⟨x,_,rfl⟩:=List.mem_map.1 (by simpa [Us] using hv)
 rfl)
theorem shl_24(a:BitVec 32):IntKind.u32.wrap (u a * 16777216)=u (a <<< 24):=shl_nat a 24
theorem shl_16(a:BitVec 32):IntKind.u32.wrap (u a * 65536)=u (a <<< 16):=shl_nat a 16
theorem shl_8(a:BitVec 32):IntKind.u32.wrap (u a * 256)=u (a <<< 8):=shl_nat a 8
theorem conv_u32(c:UInt8):IntKind.u32.wrap (c.toNat:Int)=u (ofByte c):=by rw[← ofByte_u,wrap_u]
end Go.Proofs.YtlmabbigfdbmbaaGreatDoor.Dig
namespace Go.Proofs.YtlmabbigfdbmbaaGreatDoor.Dig
open Go.RowKit Go.Proofs.YtlmabbigfdbmbaaGreatDoor.Sha Go.Proofs.YtlmabbigfdbmbaaGreatDoor.Base
def sofar(l:List UInt8)(n:Nat):List (BitVec 32):=words l n++List.replicate (64 - n) 0
theorem sofar_len(l:List UInt8)(n:Nat)(h:n≤64):(sofar l n).length=64:=by simp[sofar,words_len];omega
theorem sofar_set(l:List UInt8)(n:Nat)(h:n < 64):(sofar l n).set n (next l (words l n) n)=sofar l (n+1):=by
 have hw:=words_len l n
 unfold sofar
 rw[List.set_append_right _ _ (by omega),hw,Nat.sub_self,show 64 - n=(64 - (n+1))+1 by omega,List.replicate_succ]
 simp[words]
theorem sofar_get(l:List UInt8)(n i:Nat)(h:i < n):(sofar l n).getD i 0=(words l n).getD i 0:=by
 have hw:=words_len l n
 simp only[sofar,List.getD_eq_getElem?_getD]
 rw[List.getElem?_append_left (by omega)]
theorem sofar_full(l:List UInt8):sofar l 64=words l 64:=by simp[sofar]
def Row(t:TypeId)(w:World)(b:Nat)(cur:List (BitVec 32)):Prop:=w.heap[b]? = some (.cells (Us cur).toArray t (0,0))
theorem Row.cell{t:TypeId}{w:World}{b:Nat}{cur:List (BitVec 32)}(h:Row t w b cur)(i:Nat)(hi:i < cur.length):w.cell? ⟨b,i,none⟩=some (.int .u32 (u (cur.getD i 0))):=by
 rw[cell_of_row w b i _ t (0,0) h];simp only[List.getElem?_toArray];exact getD_cells cur i hi
theorem Row.free{t:TypeId}{w:World}{b:Nat}{cur:List (BitVec 32)}(h:Row t w b cur)(i:Nat):w.frozen? ⟨b,i,none⟩=false:=frozen_of_row w b i _ t h
theorem Us_set(cur:List (BitVec 32))(i:Nat)(x:BitVec 32):(Us cur).toArray.setIfInBounds i (U x)=(Us (cur.set i x)).toArray:=by
 simp[Us,List.map_set]
theorem Row.store{t:TypeId}{w:World}{b:Nat}{cur:List (BitVec 32)}(h:Row t w b cur)(i:Nat)(x:BitVec 32):Row t (w.setCell ⟨b,i,none⟩ (.int .u32 (u x))) b (cur.set i x):=by
 have:=heap_setCell_same w b i _ t (U x) h
 rw[Us_set]at this;exact this
theorem Row.other{t:TypeId}{w:World}{b:Nat}{cur:List (BitVec 32)}(h:Row t w b cur)(a:Addr)(v:Value)(hne:b≠a.block):Row t (w.setCell a v) b cur:=by
 unfold Row;rw[heap_setCell_other w a b v hne];exact h
theorem Row.drew{t:TypeId}{w:World}{b:Nat}{cur:List (BitVec 32)}(h:Row t w b cur):Row t w.drew b cur:=h
theorem region_tail{P:Program}{id:Nat}{Q:Exit→Act→World→Prop}{a:Act}{w:World}{l:List Oper}(n:Nat)(hm:P.follows .mixedOrders=true)(hB:Region.lexTailB .any l.toArray n=true)
  (h:∀ w2,w2=w.drew→wpStill P l.toArray w2 (fun a'=>wpList P l.toArray Q (l.drop n) a' w2) (l.take n) a):(Code.region id l.toArray true).wp P Q a w:=
 wp_region_still_tail n hm hB (h _ rfl)
structure Sp(t:TypeId)(w wr:World)(cur:List (BitVec 32)):Prop where
 zero:Row t wr w.heap.size (List.replicate 64 0)
 row:Row t wr (w.heap.size+1) cur
 len:cur.length=64
 below:Below w.heap.size w wr
theorem Sp.start(t:TypeId)(w:World)(l:List UInt8):Sp t w ((w.alloc (.cells (Us (List.replicate 64 0)).toArray t)).alloc (.cells (Us (List.replicate 64 0)).toArray t)) (sofar l 0):=
 ⟨heap_alloc2_old _ _ _,heap_alloc2_new _ _ _,sofar_len l 0 (by omega),((Below.refl _ _).alloc (Nat.le_refl _) _).alloc (by simp) _⟩
theorem Sp.store{t:TypeId}{w wr:World}{cur:List (BitVec 32)}(h:Sp t w wr cur)(i:Nat)(x:BitVec 32):Sp t w (wr.setCell ⟨w.heap.size+1,i,none⟩ (.int .u32 (u x))) (cur.set i x):=
 ⟨h.zero.other _ _ (by simp),h.row.store i x,by simp[h.len],h.below.setCell (by simp) _⟩
theorem Sp.drew{t:TypeId}{w wr:World}{cur:List (BitVec 32)}(h:Sp t w wr cur):Sp t w wr.drew cur:=⟨h.zero,h.row,h.len,h.below.drew⟩
theorem Sp.drewN{t:TypeId}{w wr:World}{n:Nat}{cur:List (BitVec 32)}(h:Sp t w wr cur):Sp t w (wr.drewN n) cur:=⟨h.zero,h.row,h.len,bdN' h.below⟩
set_option maxRecDepth 100000 in
set_option maxHeartbeats 8000000 in
theorem spread_any(b:ByteArray)(hb:b.size=64)(w:World) :
  Calls Tryz.prog 179 #[.string b] w fun e w'=>e = .returned (.agg (Us (words b.data.toList 64)).toArray)∧Below w.heap.size w w':=by
 have HB:=Lib.hid hb
 have hb':64≤b.size:=by omega
 clear hb
 go_enter Tryz.func179,Tryz.ntmps179
 go_wp2_with fail
 go_loopw [9] (fun i wr=>∃ k:Nat,k≤16∧i = .int .i64 k∧Sp 250 w wr (sofar b.data.toList k)) (fun i _=>16 - (intOf i).toNat)
 case atStart=>exact⟨0,by omega,rfl,Sp.start _ _ _⟩
 case round=>
  obtain⟨k,hk,rfl,hS⟩:=hrel
  by_cases hlt:k < 16
  ·go_wp2_with fail
   obtain⟨q,hq⟩:∃ q:Nat,q=4 * k:=⟨_,rfl⟩
   obtain⟨q1,hq1⟩:∃ q1:Nat,q1=q+1:=⟨_,rfl⟩
   obtain⟨q2,hq2⟩:∃ q2:Nat,q2=q+2:=⟨_,rfl⟩
   obtain⟨q3,hq3⟩:∃ q3:Nat,q3=q+3:=⟨_,rfl⟩
   have e0:IntKind.i64.wrap (4 * (k:Int))=(q:Int):=by rw[IntWalk.i64_in _ (by omega)];omega
   have e1:IntKind.i64.wrap ((q:Int)+1)=(q1:Int):=by rw[IntWalk.i64_in _ (by omega)];omega
   have e2:IntKind.i64.wrap ((q:Int)+2)=(q2:Int):=by rw[IntWalk.i64_in _ (by omega)];omega
   have e3:IntKind.i64.wrap ((q:Int)+3)=(q3:Int):=by rw[IntWalk.i64_in _ (by omega)];omega
   have hnum:number b.data.toList (4 * k)=(ofByte (b.data.toList.getD q 0) <<< 24) ||| (ofByte (b.data.toList.getD q1 0) <<< 16) ||| (ofByte (b.data.toList.getD q2 0) <<< 8) ||| ofByte (b.data.toList.getD q3 0):=by
    subst hq hq1 hq2 hq3;rfl
   have i0:=run_index_str (P:=Tryz.prog) 9 b q Tryz.underlying9 (by omega)
   have i1:=run_index_str (P:=Tryz.prog) 9 b q1 Tryz.underlying9 (by omega)
   have i2:=run_index_str (P:=Tryz.prog) 9 b q2 Tryz.underlying9 (by omega)
   have i3:=run_index_str (P:=Tryz.prog) 9 b q3 Tryz.underlying9 (by omega)
   generalize b.data.toList.getD q 0=c0 at *
   generalize b.data.toList.getD q1 0=c1 at *
   generalize b.data.toList.getD q2 0=c2 at *
   generalize b.data.toList.getD q3 0=c3 at *
   have f0:=conv_u32 c0
   have f1:=conv_u32 c1
   have f2:=conv_u32 c2
   have f3:=conv_u32 c3
   have g0:=shl_24 (ofByte c0)
   have g1:=shl_16 (ofByte c1)
   have g2:=shl_8 (ofByte c2)
   have b1:=bits_or (ofByte c0 <<< 24) (ofByte c1 <<< 16)
   have b2:=bits_or (ofByte c0 <<< 24 ||| ofByte c1 <<< 16) (ofByte c2 <<< 8)
   have b3:=bits_or (ofByte c0 <<< 24 ||| ofByte c1 <<< 16 ||| ofByte c2 <<< 8) (ofByte c3)
   have hcell:=hS.row.cell k (by have:=hS.len;omega)
   have hfree:=hS.row.free k
   have kb:(k:Int) < 64:=by omega
   have HN:=Lib.hid hnum
   have Q0:=Lib.hid hq
   have Q1:=Lib.hid hq1
   have Q2:=Lib.hid hq2
   have Q3:=Lib.hid hq3
   clear hnum hq hq1 hq2 hq3
   go_still_tail 31,(by kernel_rfl)
   change wpList _ _ _ _ _ wr.drew
   go_wp2_with fail
   go_roundw
   case rel=>
    refine⟨k+1,by omega,by go_num,?_⟩
    have hs:=(hS.store k (ofByte c0 <<< 24 ||| ofByte c1 <<< 16 ||| ofByte c2 <<< 8 ||| ofByte c3)).drew
    have hn:next b.data.toList (words b.data.toList k) k=(ofByte c0 <<< 24 ||| ofByte c1 <<< 16 ||| ofByte c2 <<< 8 ||| ofByte c3):=by
     unfold next;rw[if_pos hlt];exact HN.out
    rw[← hn,sofar_set _ _ (by omega)]at hs
    rw[← hn]
    exact hs
   case measure=>simp[intOf];omega
  ·have hS:=(show k=16 by omega)▸hS
   have hd:decide ((k:Int) < 16)=false:=decide_eq_false (by omega)
   go_wp2_with fail
   go_loopw [44] (fun i wr=>∃ k:Nat,k≤48∧i = .int .i64 k∧Sp 250 w wr (sofar b.data.toList (16+k))) (fun i _=>48 - (intOf i).toNat)
   case atStart=>exact⟨0,by omega,rfl,hS⟩
   case round=>
    clear hS hlt hk
    obtain⟨k,hk,rfl,hS⟩:=hrel
    by_cases hlt:k < 48
    ·obtain⟨n,hn⟩:∃ n:Nat,n=16+k:=⟨_,rfl⟩
     obtain⟨m15,h15⟩:∃ q:Nat,q+15=n:=⟨n - 15,by omega⟩
     obtain⟨m2,h2⟩:∃ q:Nat,q+2=n:=⟨n - 2,by omega⟩
     obtain⟨m16,h16⟩:∃ q:Nat,q+16=n:=⟨n - 16,by omega⟩
     obtain⟨m7,h7⟩:∃ q:Nat,q+7=n:=⟨n - 7,by omega⟩
     have e0:IntKind.i64.wrap ((k:Int)+16)=(n:Int):=by rw[IntWalk.i64_in _ (by omega)];omega
     have e0':(16:Int)+(k:Int)=(n:Int):=by omega
     have e15:IntKind.i64.wrap ((n:Int) - 15)=(m15:Int):=by rw[IntWalk.i64_in _ (by omega)];omega
     have e2:IntKind.i64.wrap ((n:Int) - 2)=(m2:Int):=by rw[IntWalk.i64_in _ (by omega)];omega
     have e16:IntKind.i64.wrap ((n:Int) - 16)=(m16:Int):=by rw[IntWalk.i64_in _ (by omega)];omega
     have e7:IntKind.i64.wrap ((n:Int) - 7)=(m7:Int):=by rw[IntWalk.i64_in _ (by omega)];omega
     have hlen:=hS.len
     have c15:=hS.row.cell m15 (by omega)
     have c2:=hS.row.cell m2 (by omega)
     have c16:=hS.row.cell m16 (by omega)
     have c7:=hS.row.cell m7 (by omega)
     have cn:=hS.row.cell n (by omega)
     have hfree:=hS.row.free n
     generalize hx15:(sofar b.data.toList (16+k)).getD m15 0=x15 at *
     generalize hx2:(sofar b.data.toList (16+k)).getD m2 0=x2 at *
     generalize hx16:(sofar b.data.toList (16+k)).getD m16 0=x16 at *
     generalize hx7:(sofar b.data.toList (16+k)).getD m7 0=x7 at *
     have b15:(m15:Int) < 64:=by omega
     have b2:(m2:Int) < 64:=by omega
     have b16:(m16:Int) < 64:=by omega
     have b7:(m7:Int) < 64:=by omega
     have bn:(n:Int) < 64:=by omega
     have hnext:next b.data.toList (words b.data.toList (16+k)) (16+k)=s1 x2+x7+s0 x15+x16:=by
      rw[← hn,← hx15,← hx2,← hx16,← hx7,← hn]
      unfold next
      rw[if_neg (by omega),sofar_get _ _ _ (by omega),sofar_get _ _ _ (by omega),sofar_get _ _ _ (by omega),sofar_get _ _ _ (by omega)]
      rw[show n - 2=m2 by omega,show n - 7=m7 by omega,show n - 15=m15 by omega,show n - 16=m16 by omega]
     have HN:=Lib.hid hnext
     have X0:=Lib.hid hn
     have X1:=Lib.hid hx15
     have X2:=Lib.hid hx2
     have X3:=Lib.hid hx16
     have X4:=Lib.hid hx7
     have X5:=Lib.hid h15
     have X6:=Lib.hid h2
     have X7:=Lib.hid h16
     have X8:=Lib.hid h7
     have X9:=Lib.hid hlen
     clear hnext hn hx15 hx2 hx16 hx7 h15 h2 h16 h7 hlen
     go_wp2_with fail
     go_quiet (fail)
     go_wp2_with fail
     have hS1:=hS.drewN (n:=nq)
     generalize wr.drewN nq=w1 at *
     have ad:=wrap_add x16 x7
     refine region_tail 11 (by kernel_rfl) (by kernel_rfl) ?_
     intro w2 hw2
     have hS2:=hS1.drew
     rw[← hw2]at hS2
     clear hw2 c15 c2 hS1 hS
     have c16:=hS2.row.cell m16 (by have:=hS2.len;have:=X7.out;have:=X0.out;omega)
     have c7:=hS2.row.cell m7 (by have:=hS2.len;have:=X8.out;have:=X0.out;omega)
     have cn:=hS2.row.cell n (by have:=hS2.len;omega)
     have hfree:=hS2.row.free n
     rw[X3.out]at c16
     rw[X4.out]at c7
     simp only[List.take_succ_cons,List.take_zero,List.drop_succ_cons,List.drop_zero]
     repeat still_step
     try refine wpStill_nil ?_
     go_wp2_with fail
     clear ad c16 c7 cn hfree
     have hS3:=hS2.store n (x16+x7)
     clear hS2
     generalize w2.setCell _ _=w3 at *
     refine region_tail 13 (by kernel_rfl) (by kernel_rfl) ?_
     intro w4 hw4
     have hS4:=hS3.drew
     rw[← hw4]at hS4
     clear hw4 hS3
     have cn:=hS4.row.cell n (by have:=hS4.len;omega)
     have hfree:=hS4.row.free n
     have hg:((sofar b.data.toList (16+k)).set n (x16+x7)).getD n 0=x16+x7:=by
      have:=X9.out;rw[List.getD_eq_getElem?_getD,List.getElem?_set_self (by omega)];rfl
     rw[hg]at cn
     have y1:=bits_xor (rotr x15 7) (rotr x15 18)
     have y2:=bits_xor (rotr x15 7 ^^^ rotr x15 18) (x15 >>> 3)
     have y3:=shr_3 x15
     have y4:=wrap_add (x16+x7) (rotr x15 7 ^^^ rotr x15 18 ^^^ x15 >>> 3)
     clear hg
     simp only[List.take_succ_cons,List.take_zero,List.drop_succ_cons,List.drop_zero]
     repeat still_step
     still_call ((right_any x15 7 _ (by omega) (by omega)).mono fun e w' h=>⟨h.1,h.2.symm⟩)
     repeat still_step
     still_call ((right_any x15 18 _ (by omega) (by omega)).mono fun e w' h=>⟨h.1,h.2.symm⟩)
     repeat still_step
     try refine wpStill_nil ?_
     go_wp2_with fail
     clear y1 y2 y3 y4 cn hfree
     have hS5:=hS4.store n (x16+x7+(rotr x15 7 ^^^ rotr x15 18 ^^^ x15 >>> 3))
     clear hS4
     rw[List.set_set]at hS5
     generalize w4.setCell _ _=w5 at *
     refine region_tail 13 (by kernel_rfl) (by kernel_rfl) ?_
     intro w6 hw6
     have hS6:=hS5.drew
     rw[← hw6]at hS6
     clear hw6 hS5
     have hT:x16+x7+(rotr x15 7 ^^^ rotr x15 18 ^^^ x15 >>> 3)=x16+x7+s0 x15:=rfl
     rw[hT]at hS6
     rw[hT]
     clear hT
     generalize hz:x16+x7+s0 x15=z at *
     have Z:=Lib.hid hz
     clear hz
     have cn:=hS6.row.cell n (by have:=hS6.len;omega)
     have hfree:=hS6.row.free n
     have hg:((sofar b.data.toList (16+k)).set n z).getD n 0=z:=by
      have:=X9.out;rw[List.getD_eq_getElem?_getD,List.getElem?_set_self (by omega)];rfl
     rw[hg]at cn
     have y1:=bits_xor (rotr x2 17) (rotr x2 19)
     have y2:=bits_xor (rotr x2 17 ^^^ rotr x2 19) (x2 >>> 10)
     have y3:=shr_10 x2
     have y4:=wrap_add z (rotr x2 17 ^^^ rotr x2 19 ^^^ x2 >>> 10)
     clear hg
     simp only[List.take_succ_cons,List.take_zero,List.drop_succ_cons,List.drop_zero]
     repeat still_step
     still_call ((right_any x2 17 _ (by omega) (by omega)).mono fun e w' h=>⟨h.1,h.2.symm⟩)
     repeat still_step
     still_call ((right_any x2 19 _ (by omega) (by omega)).mono fun e w' h=>⟨h.1,h.2.symm⟩)
     repeat still_step
     try refine wpStill_nil ?_
     go_wp2_with fail
     clear y1 y2 y3 y4 cn hfree
     go_roundw
     case rel=>
      refine⟨k+1,by omega,by go_num,?_⟩
      have hs:=hS6.store n (z+(rotr x2 17 ^^^ rotr x2 19 ^^^ x2 >>> 10))
      rw[List.set_set]at hs
      have hv:z+(rotr x2 17 ^^^ rotr x2 19 ^^^ x2 >>> 10)=next b.data.toList (words b.data.toList (16+k)) n:=by
       have e1:=HN.out;have e2:=X0.out
       rw[e2,e1,← Z.out]
       show x16+x7+s0 x15+s1 x2=_
       ac_rfl
      rw[hv,X0.out,sofar_set _ _ (by omega)]at hs
      rw[← Nat.add_assoc]
      rw[hv,X0.out]
      exact hs
     case measure=>simp[intOf];omega
    ·obtain rfl:k=48:=by omega
     have hd:decide ((48:Int) < 48)=false:=by decide
     go_wp2_with (first
      | (refine wpList_load_row rfl 250 _ rfl (w.heap.size+1) rfl 250 _ (0,0) _ hS.row Tryz.underlying250 rfl (by rw[info109];simp[Us,hS.len]) ?_)
      | (refine wpList_store_row rfl 250 _ _ rfl w.heap.size (Us (sofar b.data.toList (16+48))).toArray rfl rfl 250 _ hS.zero (by rw[info109];simp[Us,hS.len]) (by simp[Us,hS.len]) (Us_all _) ?_))
     rw[show 16+48=64 from rfl,sofar_full]
     refine bodyPost_ret (v:=.agg (Us (words b.data.toList 64)).toArray) (results_cell_row rfl _ _ w.heap.size 250 _ (0,0) _ rfl (setRow_heap _ _ _ _ _ _ hS.zero) Tryz.underlying250 rfl (by rw[info109];simp[Us,words_len])) rfl ⟨rfl,?_⟩
     exact hS.below.trans ⟨rfl,rfl,rfl,by simp,fun j hj=>setRow_other _ _ _ _ (by omega)⟩
end Go.Proofs.YtlmabbigfdbmbaaGreatDoor.Dig
namespace Go.Proofs.YtlmabbigfdbmbaaGreatDoor.Dig
open Go.RowKit Go.Proofs.YtlmabbigfdbmbaaGreatDoor.Sha Go.Proofs.YtlmabbigfdbmbaaGreatDoor.Base
theorem info35:(Tryz.prog.info? 208).map (·.size)=some 8:=by kernel_rfl
def S8.words(x:S8):List (BitVec 32):=[x.a,x.b,x.c,x.d,x.e,x.f,x.g,x.h]
theorem S8.all(x:S8):x.cells.toArray.all (·.oneCell')=true:=Us_all (S8.words x)
theorem Row.below{t:TypeId}{w w':World}{b B:Nat}{cur:List (BitVec 32)}(h:Row t w b cur)(hb:Below B w w')(hlt:b < B):Row t w' b cur:=by
 unfold Row at *;rw[hb.block b hlt];exact h
theorem Row.lt{t:TypeId}{w:World}{b:Nat}{cur:List (BitVec 32)}(h:Row t w b cur):b < w.heap.size:=(Array.getElem?_eq_some_iff.1 h).1
theorem Row.alloc{t:TypeId}{w:World}{b:Nat}{cur:List (BitVec 32)}(h:Row t w b cur)(o:Obj):Row t (w.alloc o) b cur:=
 (Below.heap_alloc w o b h.lt).trans h
theorem heap3_0(w:World)(A B C:Obj):(((w.alloc A).alloc B).alloc C).heap[w.heap.size]? = some A:=by
 rw[Below.heap_alloc _ _ _ (by simp;omega),Below.heap_alloc _ _ _ (by simp)];exact heap_alloc_last w A
theorem heap3_1(w:World)(A B C:Obj):(((w.alloc A).alloc B).alloc C).heap[w.heap.size+1]? = some B:=by
 rw[Below.heap_alloc _ _ _ (by simp)];simpa using heap_alloc_last (w.alloc A) B
theorem heap3_2(w:World)(A B C:Obj):(((w.alloc A).alloc B).alloc C).heap[w.heap.size+2]? = some C:=by
 simpa using heap_alloc_last ((w.alloc A).alloc B) C
theorem Row.new(t:TypeId)(w:World)(cur:List (BitVec 32)):Row t (w.alloc (.cells (Us cur).toArray t)) w.heap.size cur:=heap_alloc_last w _
structure Tn(w wr:World)(D:Nat)(x:S8)(l:List UInt8):Prop where
 st:Row 208 wr w.heap.size (S8.words x)
 ks:Row 250 wr (w.heap.size+1) K
 out:Row 208 wr (w.heap.size+2) (List.replicate 8 0)
 ws:Row 250 wr D (words l 64)
 below:Below w.heap.size w wr
theorem Tn.drewN{w wr:World}{D n:Nat}{x:S8}{l:List UInt8}(h:Tn w wr D x l):Tn w (wr.drewN n) D x l:=⟨h.st,h.ks,h.out,h.ws,bdN' h.below⟩
set_option maxRecDepth 100000 in
set_option maxHeartbeats 8000000 in
theorem turn_any(x:S8)(b:ByteArray)(hb:b.size=64)(w:World) :
  Calls Tryz.prog 153 #[.agg x.cells.toArray,.agg (Us K).toArray,.string b] w fun e w'=>e = .returned (.agg (turn x b.data.toList).cells.toArray)∧Below w.heap.size w w':=by
 have HB:=Lib.hid hb
 clear hb
 go_enter Tryz.func153,Tryz.ntmps153
 go_wp2_with fail
 refine(spread_any b HB.out _).mono ?_
 rintro e w1 ⟨rfl,hb1⟩
 have r0:Row 208 w1 w.heap.size (S8.words x):=(hb1.block _ (by simp;omega)).trans (heap3_0 w _ _ _)
 have r1:Row 250 w1 (w.heap.size+1) K:=(hb1.block _ (by simp)).trans (heap3_1 w _ _ _)
 have r2:Row 208 w1 (w.heap.size+2) (List.replicate 8 0):=(hb1.block _ (by simp)).trans (heap3_2 w _ _ _)
 have hb2:Below w.heap.size w w1:=((((Below.refl _ _).alloc (Nat.le_refl _) _).alloc (by simp) _).alloc (by simp;omega) _).trans (hb1.mono (by simp;omega))
 clear hb1
 go_wp2_with (refine wpList_store_row rfl 250 _ _ rfl w1.heap.size (Us (words b.data.toList 64)).toArray rfl rfl 250 _ (heap_alloc_last w1 _) (by rw[info109];simp[Us,words_len]) (by simp[Us,words_len]) (Us_all _) ?_;rw[World.setRow_alloc_new])
 have hT:Tn w (w1.alloc (.cells (Us (words b.data.toList 64)).toArray 250)) w1.heap.size x b.data.toList:=⟨r0.alloc _,r1.alloc _,r2.alloc _,Row.new _ _ _,hb2.alloc (by have:=r0.lt;omega) _⟩
 obtain⟨D,hD⟩:∃ D:Nat,D=w1.heap.size:=⟨_,rfl⟩
 rw[← hD]at hT ⊢
 generalize w1.alloc (.cells (Us (words b.data.toList 64)).toArray 250)=w2 at *
 clear r0 r1 r2 hb2 hD
 have c0:w2.cell? ⟨w.heap.size,0,none⟩=some (.int .u32 (u x.a)):=hT.st.cell 0 (by simp[S8.words])
 have c1:w2.cell? ⟨w.heap.size,1,none⟩=some (.int .u32 (u x.b)):=hT.st.cell 1 (by simp[S8.words])
 have c2:w2.cell? ⟨w.heap.size,2,none⟩=some (.int .u32 (u x.c)):=hT.st.cell 2 (by simp[S8.words])
 have c3:w2.cell? ⟨w.heap.size,3,none⟩=some (.int .u32 (u x.d)):=hT.st.cell 3 (by simp[S8.words])
 have c4:w2.cell? ⟨w.heap.size,4,none⟩=some (.int .u32 (u x.e)):=hT.st.cell 4 (by simp[S8.words])
 have c5:w2.cell? ⟨w.heap.size,5,none⟩=some (.int .u32 (u x.f)):=hT.st.cell 5 (by simp[S8.words])
 have c6:w2.cell? ⟨w.heap.size,6,none⟩=some (.int .u32 (u x.g)):=hT.st.cell 6 (by simp[S8.words])
 have c7:w2.cell? ⟨w.heap.size,7,none⟩=some (.int .u32 (u x.h)):=hT.st.cell 7 (by simp[S8.words])
 go_quiet (fail)
 go_wp2_with fail
 clear c0 c1 c2 c3 c4 c5 c6 c7
 go_loopw [8,9,10,11,12,13,14,15,37] (fun va vb vc vd ve vf vg vh i wr=>∃ k:Nat,k≤64∧i = .int .i64 k∧Tn w wr D x b.data.toList∧∃ s:S8,Hid (s=rounds x (words b.data.toList 64) k)∧va = .int .u32 (u s.a)∧vb = .int .u32 (u s.b)∧vc = .int .u32 (u s.c)∧vd = .int .u32 (u s.d)∧ve = .int .u32 (u s.e)∧vf = .int .u32 (u s.f)∧vg = .int .u32 (u s.g)∧vh = .int .u32 (u s.h)) (fun _ _ _ _ _ _ _ _ i _=>64 - (intOf i).toNat)
 case atStart=>exact⟨0,by omega,rfl,hT.drewN,x,Lib.hid rfl,rfl,rfl,rfl,rfl,rfl,rfl,rfl,rfl⟩
 case round=>
  clear hT
  obtain⟨k,hk,rfl,hT,s,hs,rfl,rfl,rfl,rfl,rfl,rfl,rfl,rfl⟩:=hrel
  by_cases hlt:k < 64
  ·have kb:(k:Int) < 64:=by omega
   have hwl:=words_len b.data.toList 64
   have ck:=hT.ks.cell k (by rw[K_len];omega)
   have cw:=hT.ws.cell k (by omega)
   clear hwl
   generalize hkv:K.getD k 0=kv at *
   generalize hwv:(words b.data.toList 64).getD k 0=wv at *
   have HK:=Lib.hid hkv
   have HW:=Lib.hid hwv
   clear hkv hwv
   have x1:=bits_xor (rotr s.e 6) (rotr s.e 11)
   have x2:bits .xor .u32 (u (rotr s.e 6 ^^^ rotr s.e 11)) (u (rotr s.e 25))=u (S1 s.e):=bits_xor (rotr s.e 6 ^^^ rotr s.e 11) (rotr s.e 25)
   have x3:=wrap_add s.h (S1 s.e)
   have x4:=bits_and s.e s.f
   have x5:=bits_not s.e
   have x5':(if IntKind.u32.signed=true then (-1:Int)else IntKind.u32.max)=4294967295:=rfl
   have x6:=bits_and (~~~s.e) s.g
   have x7:bits .xor .u32 (u (s.e &&& s.f)) (u (~~~s.e &&& s.g))=u (ch s.e s.f s.g):=bits_xor (s.e &&& s.f) (~~~s.e &&& s.g)
   have x8:=wrap_add (s.h+S1 s.e) (ch s.e s.f s.g)
   have x9:=wrap_add (s.h+S1 s.e+ch s.e s.f s.g) kv
   have x10:=wrap_add (s.h+S1 s.e+ch s.e s.f s.g+kv) wv
   go_wp2_with fail
   refine wp_region_quiet_lit (by kernel_rfl) (by kernel_rfl) ?_
   repeat (quiet_step (fail))
   refine wpQuiet_step (fun K hK=>?_)
   go_simp
   apply Exists.intro
   refine⟨fun _=>Calls.quiet_of_same (right_6 _ _),hK _ ?_⟩
   clear hK K
   repeat (quiet_step (fail))
   refine wpQuiet_step (fun K hK=>?_)
   go_simp
   apply Exists.intro
   refine⟨fun _=>Calls.quiet_of_same (right_11 _ _),hK _ ?_⟩
   clear hK K
   repeat (quiet_step (fail))
   refine wpQuiet_step (fun K hK=>?_)
   go_simp
   apply Exists.intro
   refine⟨fun _=>Calls.quiet_of_same (right_25 _ _),hK _ ?_⟩
   clear hK K
   repeat (quiet_step (fail))
   refine wpQuiet_nil ?_
   intro _ hw'
   obtain⟨nq,hw''⟩:=hw'
   subst hw''
   clear x1 x2 x3 x4 x5 x5' x6 x7 x8 x9 x10
   generalize ht1:s.h+S1 s.e+ch s.e s.f s.g+kv+wv=t1 at *
   have HT1:=Lib.hid ht1
   clear ht1
   have x1:=bits_xor (rotr s.a 2) (rotr s.a 13)
   have x2:bits .xor .u32 (u (rotr s.a 2 ^^^ rotr s.a 13)) (u (rotr s.a 22))=u (S0 s.a):=bits_xor (rotr s.a 2 ^^^ rotr s.a 13) (rotr s.a 22)
   have x3:=bits_xor s.b s.c
   have x4:=bits_and s.a (s.b ^^^ s.c)
   have x5:=bits_and s.b s.c
   have x6:bits .xor .u32 (u (s.a &&& (s.b ^^^ s.c))) (u (s.b &&& s.c))=u (maj s.a s.b s.c):=by rw[bits_xor,maj_eq]
   have x7:=wrap_add (S0 s.a) (maj s.a s.b s.c)
   have x8:=wrap_add t1 (S0 s.a+maj s.a s.b s.c)
   have x9:=wrap_add s.d t1
   go_wp2_with (first | (with_reducible refine(right_2 _ _).mono ?_;rintro e w' ⟨rfl,rfl⟩) | (with_reducible refine(right_13 _ _).mono ?_;rintro e w' ⟨rfl,rfl⟩) | (with_reducible refine(right_22 _ _).mono ?_;rintro e w' ⟨rfl,rfl⟩))
   clear x1 x2 x3 x4 x5 x6 x7 x8 x9
   go_roundw
   case rel=>
    refine⟨k+1,by omega,by go_num,hT.drewN,Sha.step s kv wv,Lib.hid ?_,?_,rfl,rfl,rfl,?_,rfl,rfl,rfl⟩
    ·rw[hs.out,← HK.out,← HW.out];rfl
    ·rw[← HT1.out];rfl
    ·rw[← HT1.out];rfl
   case measure=>simp[intOf];omega
  ·have hs64:s=rounds x (words b.data.toList 64) 64:=by
    have h:=hs.out
    have e:k=64:=by omega
    rw[e]at h
    exact h
   have HS:=Lib.hid hs64
   clear hs64 hs
   have hd:decide ((k:Int) < 64)=false:=decide_eq_false (by omega)
   have c0:wr.cell? ⟨w.heap.size,0,none⟩=some (.int .u32 (u x.a)):=hT.st.cell 0 (by simp[S8.words])
   have a0:=wrap_add x.a s.a
   have c1:wr.cell? ⟨w.heap.size,1,none⟩=some (.int .u32 (u x.b)):=hT.st.cell 1 (by simp[S8.words])
   have a1:=wrap_add x.b s.b
   have c2:wr.cell? ⟨w.heap.size,2,none⟩=some (.int .u32 (u x.c)):=hT.st.cell 2 (by simp[S8.words])
   have a2:=wrap_add x.c s.c
   have c3:wr.cell? ⟨w.heap.size,3,none⟩=some (.int .u32 (u x.d)):=hT.st.cell 3 (by simp[S8.words])
   have a3:=wrap_add x.d s.d
   have c4:wr.cell? ⟨w.heap.size,4,none⟩=some (.int .u32 (u x.e)):=hT.st.cell 4 (by simp[S8.words])
   have a4:=wrap_add x.e s.e
   have c5:wr.cell? ⟨w.heap.size,5,none⟩=some (.int .u32 (u x.f)):=hT.st.cell 5 (by simp[S8.words])
   have a5:=wrap_add x.f s.f
   have c6:wr.cell? ⟨w.heap.size,6,none⟩=some (.int .u32 (u x.g)):=hT.st.cell 6 (by simp[S8.words])
   have a6:=wrap_add x.g s.g
   have c7:wr.cell? ⟨w.heap.size,7,none⟩=some (.int .u32 (u x.h)):=hT.st.cell 7 (by simp[S8.words])
   have a7:=wrap_add x.h s.h
   go_wp2_with (refine wpList_store_row rfl 208 _ _ rfl (w.heap.size+1+1) (x.add s).cells.toArray rfl rfl 208 _ hT.out (by rw[info35];rfl) (by simp[Us,S8.cells]) (S8.all _) ?_)
   refine bodyPost_ret (v:=.agg (turn x b.data.toList).cells.toArray) ((results_cell_row rfl _ _ (w.heap.size+1+1) 208 (x.add s).cells.toArray (0,0) _ rfl (setRow_heap _ _ _ _ _ _ hT.out) Tryz.underlying208 rfl (by rw[info35];rfl)).trans ?_) rfl ⟨rfl,?_⟩
   ·rw[HS.out];rfl
   ·exact hT.below.trans ⟨rfl,rfl,rfl,by simp,fun j hj=>setRow_other _ _ _ _ (by omega)⟩
end Go.Proofs.YtlmabbigfdbmbaaGreatDoor.Dig
namespace Go.Proofs.YtlmabbigfdbmbaaGreatDoor.Dig
open Go.RowKit Go.Proofs.YtlmabbigfdbmbaaGreatDoor.Sha Go.Proofs.YtlmabbigfdbmbaaGreatDoor.Base
theorem heap2_0(w:World)(A B:Obj):((w.alloc A).alloc B).heap[w.heap.size]? = some A:=heap_alloc2_old w A B
theorem heap2_1(w:World)(A B:Obj):((w.alloc A).alloc B).heap[w.heap.size+1]? = some B:=heap_alloc2_new w A B
def part(s x:S8)(n:Nat):List (BitVec 32):=(S8.words (s.add x)).take n++(S8.words s).drop n
end Go.Proofs.YtlmabbigfdbmbaaGreatDoor.Dig
namespace Go.Proofs.YtlmabbigfdbmbaaGreatDoor.Dig
open Go.RowKit Go.Proofs.YtlmabbigfdbmbaaGreatDoor.Sha Go.Proofs.YtlmabbigfdbmbaaGreatDoor.Ord Go.Proofs.YtlmabbigfdbmbaaGreatDoor.Base
structure Bn(w wr:World)(D:Nat)(x:S8):Prop where
 st:Row 208 wr w.heap.size (S8.words x)
 out:Row 208 wr (w.heap.size+1) (List.replicate 8 0)
 ks:Row 250 wr D K
 far:w.heap.size+1 < D
 below:Below w.heap.size w wr
theorem results_row_tmp{P:Program}{fn:Func}{p q:Tmp}{ty:TypeId}(h:fn.results=#[.cell p ty,.tmp q])(tmps:Array Value)(w:World)(g:Nat)(t:TypeId)(cs:Array Value)(fr:Nat × Nat)(d:TypeDesc)
  (hp:tmps.getD p undef = .pointer (some ⟨g,0,none⟩)) (hg:w.heap[g]? = some (.cells cs t fr))
  (hu:P.underlying ty=some d) (hd:(match d with | .struct _ | .array _ _=>true | _=>false)=true) (hi:(P.info? ty).map (·.size)=some cs.size) :
  (results fn tmps).run P w = .ok (.tuple #[.agg cs,tmps.getD q undef]) w:=by
 rw[results_cell_tmp h,hp]
 simp[asAddr,run_loadVar_row w g t ty cs fr d hg hu hd hi]
set_option maxRecDepth 100000 in
set_option maxHeartbeats 8000000 in
theorem blocks_any(x:S8)(s:ByteArray)(hs:s.size≤1000000)(w:World) :
  Calls Tryz.prog 117 #[.agg x.cells.toArray,.string s] w fun e w'=>
   (∃ r:ByteArray,e = .returned (.tuple #[.agg (run x (s.size / 64) s.data.toList).cells.toArray,.string r])∧r.data.toList=s.data.toList.drop (64 * (s.size / 64)))∧Below w.heap.size w w':=by
 go_enter Tryz.func117,Tryz.ntmps117
 go_wp2_with fail
 refine(numbers_any _).mono ?_
 rintro e w1 ⟨rfl,hb1⟩
 have r0:Row 208 w1 w.heap.size (S8.words x):=(hb1.block _ (by simp;omega)).trans (heap2_0 w _ _)
 have r1:Row 208 w1 (w.heap.size+1) (List.replicate 8 0):=(hb1.block _ (by simp)).trans (heap2_1 w _ _)
 have hb2:Below w.heap.size w w1:=(((Below.refl _ _).alloc (Nat.le_refl _) _).alloc (by simp) _).trans (hb1.mono (by simp;omega))
 clear hb1
 go_wp2_with (refine wpList_store_row rfl 250 _ _ rfl w1.heap.size (Us K).toArray rfl rfl 250 _ (heap_alloc_last w1 _) info109 rfl all_K ?_;rw[World.setRow_alloc_new])
 obtain⟨D,hD⟩:∃ D:Nat,D=w1.heap.size:=⟨_,rfl⟩
 have hB:Bn w (w1.alloc (.cells (Us K).toArray 250)) D x:=by
  subst hD
  exact⟨r0.alloc _,r1.alloc _,Row.new _ _ _,r1.lt,hb2.alloc (by have:=r0.lt;omega) _⟩
 rw[← hD]
 generalize w1.alloc (.cells (Us K).toArray 250)=w2 at *
 clear r0 r1 hb2 hD
 go_frame
 go_loopw [1] (fun v wr=>∃ (t:ByteArray) (n:Nat),v = .string t∧Hid (t.data.toList=s.data.toList.drop (64 * n))∧Hid (64 * n+t.size=s.size)∧Bn w wr D (run x n s.data.toList)) (fun v _=>match v with | .string t=>t.size | _=>0)
 case atStart=>exact⟨s,0,rfl,Lib.hid (by simp),Lib.hid (by simp),hB⟩
 case round=>
  clear hB
  obtain⟨t,n,rfl,ht,hn,hB⟩:=hrel
  have hts:t.size≤1000000:=by have:=hn.out;omega
  by_cases hlt:64≤t.size
  ·go_wp2_with fail
   generalize hst:run x n s.data.toList=st at *
   have HST:=Lib.hid hst
   clear hst
   have hbs:(t.extract 0 64).size=64:=by simp[ByteArray.size_extract];omega
   have hbl:(t.extract 0 64).data.toList=(s.data.toList.drop (64 * n)).take 64:=by rw[← ht.out];simp
   have hcl:(t.extract 64 t.size).data.toList=s.data.toList.drop (64 * (n+1)):=by
    rw[show 64 * (n+1)=64 * n+64 by omega,← List.drop_drop,← ht.out,Lib.extract_data,List.take_of_length_le (by simp)]
   have hcs:64 * (n+1)+(t.extract 64 t.size).size=s.size:=by have:=hn.out;simp[ByteArray.size_extract];omega
   have hlt':(64:Int)≤(t.size:Int):=by omega
   have HBS:=Lib.hid hbs
   have HBL:=Lib.hid hbl
   have HCL:=Lib.hid hcl
   have HCS:=Lib.hid hcs
   clear hbs hbl hcl hcs
   refine wp_region_any (by kernel_rfl) ?_
   change wpAny _ _ _ _ _ _ _ wr.drew
   refine wpAny_take (i:=2) (v:=.string t) rfl (by kernel_rfl) (by kernel_rfl) (by kernel_rfl) (fun _ _ _ h=>h) (Or.inl ⟨by rfl,fun wx=>by go_simp⟩) ?_
   refine wpAny_take (i:=5) (v:=.string t) rfl (by kernel_rfl) (by kernel_rfl) (by kernel_rfl) (fun _ _ _ h=>h) (Or.inl ⟨by rfl,fun wx=>by go_simp⟩) ?_
   refine wpAny_take (i:=3) (v:=.string (t.extract 0 64)) rfl (by kernel_rfl) (by kernel_rfl) (by kernel_rfl) (fun _ _ _ h=>h) (Or.inl ⟨by rfl,fun wx=>by go_simp⟩) ?_
   refine wpAny_take (i:=6) (v:=.string (t.extract 64 t.size)) rfl (by kernel_rfl) (by kernel_rfl) (by kernel_rfl) (fun _ _ _ h=>h) (Or.inl ⟨by rfl,fun wx=>by go_simp⟩) ?_
   refine any_two (i:=0) (j:=1) (by decide) (by kernel_rfl) (by kernel_rfl) (by kernel_rfl) rfl rfl rfl rfl (by kernel_rfl) (by kernel_rfl)
    (exec_load_row 208 _ rfl w.heap.size rfl _ _ _ _ hB.st Tryz.underlying208 rfl (by rw[info35];rfl))
    (exec_load_row 250 _ rfl D rfl _ _ _ _ hB.ks Tryz.underlying250 rfl info109) ?_
   refine any_one (i:=4) (by kernel_rfl) ?_
   refine wpOp_at rfl rfl (fun K0 hK0=>?_)
   go_frame
   go_simp
   refine(turn_any st _ HBS.out _).mono ?_
   rintro e w3 ⟨rfl,hb3⟩
   refine hK0 _ _ ?_
   clear hK0 K0
   have h0:Row 208 w3 w.heap.size (S8.words st):=(hB.st.drew).below hb3 hB.st.lt
   have h1:Row 208 w3 (w.heap.size+1) (List.replicate 8 0):=(hB.out.drew).below hb3 hB.out.lt
   have h2:Row 250 w3 D K:=(hB.ks.drew).below hb3 hB.ks.lt
   refine any_one (i:=7) (by kernel_rfl) ?_
   refine wpOp_skip (w':=w3.setRow w.heap.size (turn st (t.extract 0 64).data.toList).cells.toArray) rfl rfl (exec_store_row 208 _ _ rfl w.heap.size _ rfl rfl _ _ h0 (by rw[info35];rfl) (by simp[Us,S8.words,S8.cells]) (S8.all _)) ?_
   refine any_one (i:=8) (by kernel_rfl) ?_
   refine wpOp_value (v:=.string (t.extract 64 t.size)) (w':=w3.setRow w.heap.size (turn st (t.extract 0 64).data.toList).cells.toArray) rfl rfl (by rfl) ?_
   refine wpAny_done (by kernel_rfl) ?_ _
   simp only[List.getElem_toArray,List.getElem_cons_succ,List.getElem_cons_zero]
   go_frame
   go_wp2_with fail
   go_roundw
   case rel=>
    refine⟨_,n+1,rfl,HCL,HCS,?_⟩
    have hf:=hB.far
    have hz:turn st (t.extract 0 64).data.toList=run x (n+1) s.data.toList:=by
     rw[HBL.out,run_add x n 1,HST.out];rfl
    rw[hz]
    exact⟨setRow_heap _ _ _ _ _ _ h0,(setRow_other _ _ _ _ (by omega)).trans h1,(setRow_other _ _ _ _ (by omega)).trans h2,hf,hB.below.trans ((bdN' (n:=1) (Below.refl _ _)).trans ((hb3.mono (by have:=hB.st.lt;show w.heap.size≤wr.heap.size;omega)).trans ⟨rfl,rfl,rfl,by simp,fun j hj=>setRow_other _ _ _ _ (by omega)⟩))⟩
   case measure=>simp[ByteArray.size_extract];omega
  ·have hd:decide ((64:Int)≤(t.size:Int))=false:=decide_eq_false (by omega)
   have hn64:n=s.size / 64:=by have:=hn.out;omega
   have hrun:run x n s.data.toList=run x (s.size / 64) s.data.toList:=by rw[hn64]
   have hdrop:t.data.toList=s.data.toList.drop (64 * (s.size / 64)):=by rw[← hn64];exact ht.out
   rw[hrun]at hB
   have HR:=Lib.hid hdrop
   clear hn64 hrun hdrop ht hn
   generalize hst:run x (s.size / 64) s.data.toList=st at *
   have HST:=Lib.hid hst
   clear hst
   go_wp2_with (first
    | (refine wpList_load_row rfl 208 _ rfl w.heap.size rfl 208 _ (0,0) _ hB.st Tryz.underlying208 rfl (by rw[info35];rfl) ?_)
    | (refine wpList_store_row rfl 208 _ _ rfl (w.heap.size+1) (S8.cells st).toArray rfl rfl 208 _ hB.out (by rw[info35];rfl) (by simp[Us,S8.cells]) (S8.all _) ?_))
   refine bodyPost_ret (v:=.tuple #[.agg st.cells.toArray,.string t]) (results_row_tmp (p:=4) (q:=5) rfl _ _ (w.heap.size+1) 208 st.cells.toArray (0,0) _ rfl (setRow_heap _ _ _ _ _ _ hB.out) Tryz.underlying208 rfl (by rw[info35];rfl)) rfl ⟨⟨t,?_,HR.out⟩,?_⟩
   ·rw[HST.out]
   ·exact hB.below.trans ⟨rfl,rfl,rfl,by simp,fun j hj=>setRow_other _ _ _ _ (by omega)⟩
end Go.Proofs.YtlmabbigfdbmbaaGreatDoor.Dig
namespace Go.Proofs.YtlmabbigfdbmbaaGreatDoor.Dig
open Go.RowKit Go.Proofs.YtlmabbigfdbmbaaGreatDoor.Sha Go.Proofs.YtlmabbigfdbmbaaGreatDoor.Ord Go.Proofs.YtlmabbigfdbmbaaGreatDoorW.PrintWords Go.Proofs.YtlmabbigfdbmbaaGreatDoor.Base
theorem byte_shr(x:BitVec 32)(n:Nat):IntKind.u8.wrap (u x / 2 ^ n)=((UInt8.ofNat (x.toNat / 2 ^ n)).toNat:Int):=by
 rw[IntKind.wrap_u8];simp[u]
theorem byte_24(x:BitVec 32):IntKind.u8.wrap (u x / (16777216:Int))=((UInt8.ofNat (x.toNat / 2 ^ 24)).toNat:Int):=byte_shr x 24
theorem byte_16(x:BitVec 32):IntKind.u8.wrap (u x / (65536:Int))=((UInt8.ofNat (x.toNat / 2 ^ 16)).toNat:Int):=byte_shr x 16
theorem byte_8(x:BitVec 32):IntKind.u8.wrap (u x / (256:Int))=((UInt8.ofNat (x.toNat / 2 ^ 8)).toNat:Int):=byte_shr x 8
theorem byte_0(x:BitVec 32):IntKind.u8.wrap (u x)=((UInt8.ofNat x.toNat).toNat:Int):=by
 rw[IntKind.wrap_u8];simp[u]
theorem bytesOf_spec(v:BitVec 32):∃ b3 b2 b1 b0:UInt8,bytesOf v = [b3,b2,b1,b0]∧IntKind.u8.wrap (u v / (16777216:Int))=(b3.toNat:Int)∧IntKind.u8.wrap (u v / (65536:Int))=(b2.toNat:Int)∧IntKind.u8.wrap (u v / (256:Int))=(b1.toNat:Int)∧IntKind.u8.wrap (u v)=(b0.toNat:Int):=
 ⟨_,_,_,_,rfl,byte_24 v,byte_16 v,byte_8 v,byte_0 v⟩
def pre(x:S8)(k:Nat):List UInt8:=((S8.words x).take k).flatMap bytesOf
theorem pre_succ(x:S8):∀ k:Nat,k < 8→pre x (k+1)=pre x k++bytesOf ((S8.words x).getD k 0)
 | 0,_=>rfl
 | 1,_=>rfl
 | 2,_=>rfl
 | 3,_=>rfl
 | 4,_=>rfl
 | 5,_=>rfl
 | 6,_=>rfl
 | 7,_=>rfl
set_option maxRecDepth 100000 in
set_option maxHeartbeats 8000000 in
theorem bytes_any(x:S8)(w:World) :
  Calls Tryz.prog 119 #[.agg x.cells.toArray] w fun e w'=>e = .returned (.string ⟨x.bytes.toArray⟩)∧Below w.heap.size w w':=by
 obtain⟨i0,hi,hz0,hz1,hz2⟩:=info_parts info5
 go_enter Tryz.func119,Tryz.ntmps119
 go_wp2_with (refine wpList_load_row rfl 208 _ rfl w.heap.size rfl 208 (Us (S8.words x)).toArray (0,0) _ (heap_alloc_last w _) Tryz.underlying208 rfl (by rw[info35];rfl) ?_)
 go_loopw [3,7] (fun v i wr=>∃ k:Nat,k≤8∧i = .int .i64 k∧wr.ownsRow w.heap.size 5 1 v (4 * k) (nums .u8 (ints (pre x k)))∧Below w.heap.size w wr) (fun _ i _=>8 - (intOf i).toNat)
 case atStart=>exact⟨0,by omega,rfl,World.ownsRow_nil _ _ _ _,(Below.refl _ _).alloc (Nat.le_refl _) _⟩
 case round=>
  obtain⟨k,hk,rfl,hown,hbel⟩:=hrel
  by_cases hlt:k < 8
  ·have hx:=run_index_Us (P:=Tryz.prog) 208 206 8 (S8.words x) k Tryz.underlying208 (by kernel_rfl) Tryz.underlying206 rfl hlt
   have hps:=pre_succ x k hlt
   generalize (S8.words x).getD k 0=v0 at *
   have HPS:=Lib.hid hps
   clear hps
   obtain⟨b3,b2,b1,b0,hbs,e24,e16,e8,e0⟩:=bytesOf_spec v0
   rw[hbs]at HPS
   clear hbs
   have hsz:=hbel.size
   have hU:U v0 = .int .u32 (u v0):=rfl
   go_wp2_with (at_builtin;refine wpList_append_own _ rfl _ _ 129 rfl w.heap.size 5 i0 (.int .u8 0) 1 1 Tryz.underlying129 hi hz0 hz1 hz2 rfl (by decide) _ _ _ rfl (hown.alloc _) ⟨wr.heap.size,0,none⟩ 4 4 (nums .u8 (ints [b3,b2,b1,b0])) rfl rfl ?c1 ?c2 ?c3 ?c4 ?c5 ?_)
   case c1=>exact fun j u h=>cells_new wr (nums .u8 (ints [b3,b2,b1,b0])) _ j u h
   case c2=>exact fun v hv=>nums_one _ _ v hv
   case c3=>unfold maxLen;omega
   case c4=>omega
   case c5=>simp;omega
   intro v' w1 hown' hgrow _
   have hb1:Below w.heap.size w w1:=(hbel.alloc (by omega) _).grown hgrow (by simp;omega) (fun j hj=>(hown.lt j hj).1)
   clear hgrow
   go_wp2_with fail
   go_roundw
   case rel=>
    refine⟨k+1,by omega,by go_num,?_,hb1⟩
    rw[HPS.out,ints_append,nums_append]
    exact hown'
   case measure=>simp[intOf];omega
  ·have hd:decide ((k:Int) < 8)=false:=decide_eq_false (by omega)
   have hown8:wr.ownsRow w.heap.size 5 1 u3 32 (nums .u8 (ints x.bytes)):=by
    have e:k=8:=by omega
    subst e
    exact hown
   have hcv:=own_string (P:=Tryz.prog) Tryz.underlying129 Tryz.underlying5 Tryz.underlying9 hown8
   rw[str_ints]at hcv
   go_wp2_with fail
   go_ret
   exact⟨rfl,hbel⟩
end Go.Proofs.YtlmabbigfdbmbaaGreatDoor.Dig
namespace Go.Proofs.YtlmabbigfdbmbaaGreatDoor.Dig
open Go.RowKit Go.Proofs.YtlmabbigfdbmbaaGreatDoor.Sha Go.Proofs.YtlmabbigfdbmbaaGreatDoor.Ord Go.Proofs.YtlmabbigfdbmbaaGreatDoorW.PrintWords Go.Proofs.YtlmabbigfdbmbaaGreatDoorW.PrintLast Go.Proofs.YtlmabbigfdbmbaaGreatDoorW.PrintMore Go.Proofs.YtlmabbigfdbmbaaGreatDoor.PShelfNil Go.Proofs.YtlmabbigfdbmbaaGreatDoor.Base
theorem w64(n:Int)(h : -9223372036854775808≤n∧n≤9223372036854775807):wrap64 n=n:=IntWalk.wrap64_in n h
theorem u64w(n:Int)(h:0≤n∧n≤18446744073709551615):IntKind.u64.wrap n=n:=IntWalk.u64_in n h
def lens(n i:Nat):List UInt8:=(List.range i).map fun i=>UInt8.ofNat (n * 8 / 2 ^ (56 - 8 * i))
theorem lens_succ(n i:Nat):lens n (i+1)=lens n i ++ [UInt8.ofNat (n * 8 / 2 ^ (56 - 8 * i))]:=by
 simp[lens,List.range_succ]
theorem lens_len(n i:Nat):(lens n i).length=i:=by simp[lens]
theorem end_l1(n:Nat)(x:List UInt8)(hx:x.length≤200):∀ d k i:Nat,i+d=8→d < k→
  digest_end.l1 k (ints (x++lens n i)) ((n:Int) * 8) i=some (strOfNums (ints (x++lens n 8))):=by
 intro d
 induction d with
 | zero=>
  intro k i hi hk
  obtain⟨k,rfl⟩:∃ m,k=m+1:=⟨k - 1,by omega⟩
  obtain rfl:i=8:=by omega
  simp only[digest_end.l1]
  rw[if_neg (by omega)]
 | succ d ih=>
  intro k i hi hk
  obtain⟨k,rfl⟩:∃ m,k=m+1:=⟨k - 1,by omega⟩
  have ih':=ih k (i+1) (by omega) (by omega)
  have e1:wrap64 (8 * (i:Int))=8 * (i:Int):=w64 _ (by omega)
  have e2:wrap64 (56 - 8 * (i:Int))=((56 - 8 * i:Nat):Int):=by rw[w64 _ (by omega)];omega
  have e3:wrap64 ((i:Int)+1)=((i+1:Nat):Int):=by rw[w64 _ (by omega)];omega
  simp only[digest_end.l1]
  rw[if_pos (by omega),e1,e2,if_pos (by omega),e3]
  have hl:(ints (x++lens n i)).length < 140737488355328:=by simp[ints,lens_len];omega
  rw[if_pos hl]
  have hs:shr .u64 ((n:Int) * 8) ((56 - 8 * i:Nat):Int) % 256=((UInt8.ofNat (n * 8 / 2 ^ (56 - 8 * i))).toNat:Int):=by
   have hm:min (56 - 8 * i) IntKind.u64.bits=56 - 8 * i:=by show min (56 - 8 * i) 64=_;omega
   simp only[shr,Int.toNat_natCast,hm]
   simp
  rw[hs]
  have hc:ints (x++lens n i) ++ [((UInt8.ofNat (n * 8 / 2 ^ (56 - 8 * i))).toNat:Int)]=ints (x++lens n (i+1)):=by
   rw[lens_succ,← List.append_assoc,ints_append (x++lens n i)];rfl
  rw[hc]
  exact ih'
theorem end_l0(n:Nat)(hn:n≤2000000):∀ d k j:Nat,j+d=(119 - n % 64) % 64→d+9 < k→
  digest_end.l0 k n (ints ([0x80]++List.replicate j 0))=some (strOfNums (ints (tail n))):=by
 intro d
 induction d with
 | zero=>
  intro k j hj hk
  obtain⟨k,rfl⟩:∃ m,k=m+1:=⟨k - 1,by omega⟩
  have hlen:(ints ([0x80]++List.replicate j 0)).length=1+j:=by simp[ints];omega
  simp only[digest_end.l0]
  rw[hlen,w64 _ (by omega),Int.tmod_eq_emod_of_nonneg (by omega),if_pos (by omega),u64w (n:Int) (by omega),u64w ((n:Int) * 8) (by omega)]
  have h:=end_l1 n ([0x80]++List.replicate j 0) (by simp;omega) 8 k 0 (by omega) (by omega)
  have e0:lens n 0 = []:=rfl
  rw[e0,List.append_nil]at h
  have ej:j=(119 - n % 64) % 64:=by omega
  have et:tail n = [0x80]++List.replicate j 0++lens n 8:=by rw[ej];rfl
  rw[et]
  exact h
 | succ d ih=>
  intro k j hj hk
  obtain⟨k,rfl⟩:∃ m,k=m+1:=⟨k - 1,by omega⟩
  have hlen:(ints ([0x80]++List.replicate j 0)).length=1+j:=by simp[ints];omega
  simp only[digest_end.l0]
  rw[hlen,w64 _ (by omega),Int.tmod_eq_emod_of_nonneg (by omega),if_neg (by omega),if_pos (by omega)]
  have hc:ints ([0x80]++List.replicate j 0) ++ [0]=ints ([0x80]++List.replicate (j+1) 0):=by
   rw[List.replicate_succ',← List.append_assoc,ints_append ([0x80]++List.replicate j 0)];rfl
  rw[hc]
  exact ih k (j+1) (by omega) (by omega)
theorem end_any(n:Nat)(hn:n≤2000000)(w:World) :
  Calls Tryz.prog 118 #[.int .i64 (n:Int)] w fun e w'=>e = .returned (.string ⟨(tail n).toArray⟩)∧Below w.heap.size w w':=by
 have h:=end_l0 n hn ((119 - n % 64) % 64) 1000 0 (by omega) (by omega)
 have h2:digest_end.f 1000 (n:Int)=some (strOfNums (ints (tail n))):=h
 rw[str_ints]at h2
 exact digest_end.calls 1000 n _ w h2
end Go.Proofs.YtlmabbigfdbmbaaGreatDoor.Dig
namespace Go.Proofs.YtlmabbigfdbmbaaGreatDoor.Dig
open Go.RowKit Go.Proofs.YtlmabbigfdbmbaaGreatDoor.Sha Go.Proofs.YtlmabbigfdbmbaaGreatDoor.Ord Go.Proofs.YtlmabbigfdbmbaaGreatDoor.Base
def hcells(m:Bool)(x:S8)(r:ByteArray)(n:Int):List Value:=
 [.bool m,.int .u32 (u x.a),.int .u32 (u x.b),.int .u32 (u x.c),.int .u32 (u x.d),.int .u32 (u x.e),.int .u32 (u x.f),.int .u32 (u x.g),.int .u32 (u x.h),.string r,.int .i64 n]
def HashAt(w:World)(b:Nat)(m:Bool)(x:S8)(r:ByteArray)(n:Int):Prop:=w.heap[b]? = some (.cells (hcells m x r n).toArray 211 (0,0))
theorem HashAt.cell{w:World}{b:Nat}{m:Bool}{x:S8}{r:ByteArray}{n:Int}(h:HashAt w b m x r n)(i:Nat):w.cell? ⟨b,i,none⟩=(hcells m x r n)[i]? :=by
 rw[cell_of_row w b i _ _ (0,0) h];simp
theorem HashAt.free{w:World}{b:Nat}{m:Bool}{x:S8}{r:ByteArray}{n:Int}(h:HashAt w b m x r n)(i:Nat):w.frozen? ⟨b,i,none⟩=false:=frozen_of_row w b i _ _ h
theorem HashAt.lt{w:World}{b:Nat}{m:Bool}{x:S8}{r:ByteArray}{n:Int}(h:HashAt w b m x r n):b < w.heap.size:=(Array.getElem?_eq_some_iff.1 h).1
theorem HashAt.below{w w':World}{b B:Nat}{m:Bool}{x:S8}{r:ByteArray}{n:Int}(h:HashAt w b m x r n)(hb:Below B w w')(hlt:b < B):HashAt w' b m x r n:=(hb.block b hlt).trans h
theorem grown_trans{w1 w2 w3:World}{row:Option Nat}(h:w1.grownBy w2 row)(k:w2.grownBy w3 row):w1.grownBy w3 row:=
 ⟨k.os.trans h.os,k.tape.trans h.tape,k.output.trans h.output,Nat.le_trans h.size k.size,fun i hi hne=>(k.block i (Nat.lt_of_lt_of_le hi h.size) hne).trans (h.block i hi hne)⟩
theorem grown_set(w:World)(a:Addr)(v:Value):w.grownBy (w.setCell a v) (some a.block):=
 ⟨rfl,rfl,rfl,by simp[World.setCell],fun k _ hne=>Below.heap_setCell _ _ _ _ (fun e=>hne (by rw[e]))⟩
theorem HashAt.set{w:World}{b:Nat}{m:Bool}{x:S8}{r:ByteArray}{n:Int}(h:HashAt w b m x r n)(i:Nat)(v:Value):(w.setCell ⟨b,i,none⟩ v).heap[b]? = some (.cells ((hcells m x r n).set i v).toArray 211 (0,0)):=by
 have:=heap_setCell_same w b i _ _ v h
 rw[this];simp
set_option maxRecDepth 100000 in
set_option maxHeartbeats 8000000 in
theorem new_any(w:World) :
  Calls Tryz.prog 81 #[] w fun e w'=>∃ b,e = .returned (.pointer (some ⟨b,0,none⟩))∧w.heap.size≤b∧HashAt w' b true init ⟨#[]⟩ 0∧Below w.heap.size w w':=by
 go_enter Tryz.func81,Tryz.ntmps81
 go_wp2_with fail
 refine(begin_any _).mono ?_
 rintro e w1 ⟨rfl,hb⟩
 have hz:=hb.size
 go_wp2_with (refine wpList_build_as rfl 211 _ rfl (hcells true init ⟨#[]⟩ 0).toArray (by kernel_rfl) ?_)
 go_ret
 exact⟨w1.heap.size,rfl,hz,heap_alloc_last w1 _,hb.alloc hz _⟩
set_option maxRecDepth 100000 in
set_option maxHeartbeats 8000000 in
theorem is_at(b:Nat)(m:Bool)(w:World)(h:w.cell? ⟨b,0,none⟩=some (.bool m)) :
  Calls Tryz.prog 116 #[.pointer (some ⟨b,0,none⟩)] w fun e w'=>e = .returned (.bool m)∧w=w':=by
 go_enter Tryz.func116,Tryz.ntmps116
 go_wp2
 go_ret
 exact⟨rfl,rfl⟩
end Go.Proofs.YtlmabbigfdbmbaaGreatDoor.Dig
namespace Go.Proofs.YtlmabbigfdbmbaaGreatDoor.Dig
open Go.RowKit Go.Proofs.YtlmabbigfdbmbaaGreatDoor.Sha Go.Proofs.YtlmabbigfdbmbaaGreatDoor.Ord Go.Proofs.YtlmabbigfdbmbaaGreatDoor.Base
theorem blocks_lit(x:S8)(s:ByteArray)(hs:s.size≤1000000)(w:World) :
  Calls Tryz.prog 117 #[.agg #[.int .u32 (u x.a),.int .u32 (u x.b),.int .u32 (u x.c),.int .u32 (u x.d),.int .u32 (u x.e),.int .u32 (u x.f),.int .u32 (u x.g),.int .u32 (u x.h)],.string s] w fun e w'=>
   (∃ (y:S8) (r:ByteArray),e = .returned (.tuple #[.agg #[.int .u32 (u y.a),.int .u32 (u y.b),.int .u32 (u y.c),.int .u32 (u y.d),.int .u32 (u y.e),.int .u32 (u y.f),.int .u32 (u y.g),.int .u32 (u y.h)],.string r])∧Hid (y=run x (s.size / 64) s.data.toList)∧Hid (r.data.toList=s.data.toList.drop (64 * (s.size / 64))))∧Below w.heap.size w w':=
 (blocks_any x s hs w).mono fun _ _ ⟨⟨r,he,hr⟩,hb⟩=>⟨⟨_,r,he,Lib.hid rfl,hr⟩,hb⟩
theorem setAt{w:World}{b:Nat}{l:List Value}{t:TypeId}(h:w.heap[b]? = some (.cells l.toArray t (0,0)))(i:Nat)(v:Value):(w.setCell ⟨b,i,none⟩ v).heap[b]? = some (.cells (l.set i v).toArray t (0,0)):=by
 rw[heap_setCell_same w b i _ _ v h];simp
theorem put9{w:World}{b:Nat}{m:Bool}{x:S8}{r:ByteArray}{n:Int}(h:HashAt w b m x r n)(y:S8)(r':ByteArray):HashAt (((((((((w.setCell ⟨b,1,none⟩ (.int .u32 (u y.a))).setCell ⟨b,2,none⟩ (.int .u32 (u y.b))).setCell ⟨b,3,none⟩ (.int .u32 (u y.c))).setCell ⟨b,4,none⟩ (.int .u32 (u y.d))).setCell ⟨b,5,none⟩ (.int .u32 (u y.e))).setCell ⟨b,6,none⟩ (.int .u32 (u y.f))).setCell ⟨b,7,none⟩ (.int .u32 (u y.g))).setCell ⟨b,8,none⟩ (.int .u32 (u y.h))).setCell ⟨b,9,none⟩ (.string r')) b m y r' n:=by
 have h1:=setAt h 1 (.int .u32 (u y.a))
 have h2:=setAt h1 2 (.int .u32 (u y.b))
 have h3:=setAt h2 3 (.int .u32 (u y.c))
 have h4:=setAt h3 4 (.int .u32 (u y.d))
 have h5:=setAt h4 5 (.int .u32 (u y.e))
 have h6:=setAt h5 6 (.int .u32 (u y.f))
 have h7:=setAt h6 7 (.int .u32 (u y.g))
 have h8:=setAt h7 8 (.int .u32 (u y.h))
 have h9:=setAt h8 9 (.string r')
 have e:((((((((((hcells m x r n).set 1 (.int .u32 (u y.a))).set 2 (.int .u32 (u y.b))).set 3 (.int .u32 (u y.c))).set 4 (.int .u32 (u y.d))).set 5 (.int .u32 (u y.e))).set 6 (.int .u32 (u y.f))).set 7 (.int .u32 (u y.g))).set 8 (.int .u32 (u y.h))).set 9 (.string r'))=hcells m y r' n:=rfl
 rw[e]at h9
 exact h9
theorem grown9(w:World)(b:Nat)(y:S8)(r':ByteArray):w.grownBy (((((((((w.setCell ⟨b,1,none⟩ (.int .u32 (u y.a))).setCell ⟨b,2,none⟩ (.int .u32 (u y.b))).setCell ⟨b,3,none⟩ (.int .u32 (u y.c))).setCell ⟨b,4,none⟩ (.int .u32 (u y.d))).setCell ⟨b,5,none⟩ (.int .u32 (u y.e))).setCell ⟨b,6,none⟩ (.int .u32 (u y.f))).setCell ⟨b,7,none⟩ (.int .u32 (u y.g))).setCell ⟨b,8,none⟩ (.int .u32 (u y.h))).setCell ⟨b,9,none⟩ (.string r')) (some b):=
 grown_trans (grown_trans (grown_trans (grown_trans (grown_trans (grown_trans (grown_trans (grown_trans (grown_set _ ⟨b,1,none⟩ _) (grown_set _ ⟨b,2,none⟩ _)) (grown_set _ ⟨b,3,none⟩ _)) (grown_set _ ⟨b,4,none⟩ _)) (grown_set _ ⟨b,5,none⟩ _)) (grown_set _ ⟨b,6,none⟩ _)) (grown_set _ ⟨b,7,none⟩ _)) (grown_set _ ⟨b,8,none⟩ _)) (grown_set _ ⟨b,9,none⟩ _)
theorem append_data(r s:ByteArray):(r++s).data.toList=r.data.toList++s.data.toList:=by simp
set_option maxRecDepth 100000 in
set_option maxHeartbeats 8000000 in
theorem put_at(b:Nat)(x:S8)(r s:ByteArray)(n:Nat)(w:World)(h:HashAt w b true x r n)(hn:n≤900000)(hs:s.size≤900000)(hr:r.size < 64) :
  Calls Tryz.prog 82 #[.pointer (some ⟨b,0,none⟩),.string s] w fun e w'=>e = .returned (.int .i64 0)∧
   (∃ r':ByteArray,HashAt w' b true (run x ((r.size+s.size) / 64) (r.data.toList++s.data.toList)) r' ((n+s.size:Nat):Int)∧r'.data.toList=(r.data.toList++s.data.toList).drop (64 * ((r.size+s.size) / 64)))∧w.grownBy w' (some b):=by
 have h10:w.cell? ⟨b,10,none⟩=some (.int .i64 n):=h.cell 10
 have h0:w.cell? ⟨b,0,none⟩=some (.bool true):=h.cell 0
 have hf:=h.free 10
 go_enter Tryz.func82,Tryz.ntmps82
 go_wp2_with (go_at_call 116;refine(is_at b true _ h0).mono ?_;rintro e w' ⟨rfl,rfl⟩)
 have hW:HashAt (w.setCell ⟨b,10,none⟩ (.int .i64 ((n:Int)+(s.size:Int)))) b true x r ((n:Int)+(s.size:Int)):=h.set 10 _
 have hG:w.grownBy (w.setCell ⟨b,10,none⟩ (.int .i64 ((n:Int)+(s.size:Int)))) (some b):=grown_set w ⟨b,10,none⟩ _
 generalize w.setCell ⟨b,10,none⟩ (.int .i64 ((n:Int)+(s.size:Int)))=w1 at *
 clear h10 h0 hf
 have c1:w1.cell? ⟨b,1,none⟩=some (.int .u32 (u x.a)):=hW.cell 1
 have c2:w1.cell? ⟨b,2,none⟩=some (.int .u32 (u x.b)):=hW.cell 2
 have c3:w1.cell? ⟨b,3,none⟩=some (.int .u32 (u x.c)):=hW.cell 3
 have c4:w1.cell? ⟨b,4,none⟩=some (.int .u32 (u x.d)):=hW.cell 4
 have c5:w1.cell? ⟨b,5,none⟩=some (.int .u32 (u x.e)):=hW.cell 5
 have c6:w1.cell? ⟨b,6,none⟩=some (.int .u32 (u x.f)):=hW.cell 6
 have c7:w1.cell? ⟨b,7,none⟩=some (.int .u32 (u x.g)):=hW.cell 7
 have c8:w1.cell? ⟨b,8,none⟩=some (.int .u32 (u x.h)):=hW.cell 8
 have c9:w1.cell? ⟨b,9,none⟩=some (.string r):=hW.cell 9
 have hlt:=hW.lt
 have hrs:(r++s).size≤1000000:=by rw[ByteArray.size_append];omega
 go_region_with (first | (go_at_call 117;refine(blocks_lit x (r++s) hrs _).mono ?_;rintro e w' ⟨⟨y,r',rfl,hy,hr'⟩,hbw⟩;have hZ:HashAt w' b true x r ((n:Int)+(s.size:Int)):=HashAt.below (w:=w1.drew) hW hbw hlt;have d1:w'.cell? ⟨b,1,none⟩=some (.int .u32 (u x.a)):=hZ.cell 1;have f1:=hZ.free 1;have d2:w'.cell? ⟨b,2,none⟩=some (.int .u32 (u x.b)):=hZ.cell 2;have f2:=hZ.free 2;have d3:w'.cell? ⟨b,3,none⟩=some (.int .u32 (u x.c)):=hZ.cell 3;have f3:=hZ.free 3;have d4:w'.cell? ⟨b,4,none⟩=some (.int .u32 (u x.d)):=hZ.cell 4;have f4:=hZ.free 4;have d5:w'.cell? ⟨b,5,none⟩=some (.int .u32 (u x.e)):=hZ.cell 5;have f5:=hZ.free 5;have d6:w'.cell? ⟨b,6,none⟩=some (.int .u32 (u x.f)):=hZ.cell 6;have f6:=hZ.free 6;have d7:w'.cell? ⟨b,7,none⟩=some (.int .u32 (u x.g)):=hZ.cell 7;have f7:=hZ.free 7;have d8:w'.cell? ⟨b,8,none⟩=some (.int .u32 (u x.h)):=hZ.cell 8;have f8:=hZ.free 8;have d9:w'.cell? ⟨b,9,none⟩=some (.string r):=hZ.cell 9;have f9:=hZ.free 9))
 all_goals
  clear d1 f1 d2 f2 d3 f3 d4 f4 d5 f5 d6 f6 d7 f7 d8 f8 d9 f9 c1 c2 c3 c4 c5 c6 c7 c8 c9
  go_wp2_with fail
  go_ret
  refine⟨rfl,⟨r',?_,?_⟩,?_⟩
  ·have hq:=hy.out
   rw[append_data,ByteArray.size_append]at hq
   rw[← hq]
   exact put9 hZ y r'
  ·have hq:=hr'.out
   rw[append_data,ByteArray.size_append]at hq
   exact hq
  ·exact grown_trans hG (grown_trans (grown_below (w:=w1) (w':=w') ((bdN' (n:=1) (Below.refl _ _)).trans hbw) _) (grown9 w' b y r'))
end Go.Proofs.YtlmabbigfdbmbaaGreatDoor.Dig
namespace Go.Proofs.YtlmabbigfdbmbaaGreatDoor.Dig
open Go.RowKit Go.Proofs.YtlmabbigfdbmbaaGreatDoor.Sha Go.Proofs.YtlmabbigfdbmbaaGreatDoor.Ord Go.Proofs.YtlmabbigfdbmbaaGreatDoor.Base
theorem HashAt.ten{w:World}{b:Nat}{m:Bool}{x:S8}{r:ByteArray}{n:Int}(h:HashAt w b m x r n):w.cell? ⟨b,1,none⟩=some (.int .u32 (u x.a))∧w.cell? ⟨b,2,none⟩=some (.int .u32 (u x.b))∧w.cell? ⟨b,3,none⟩=some (.int .u32 (u x.c))∧w.cell? ⟨b,4,none⟩=some (.int .u32 (u x.d))∧w.cell? ⟨b,5,none⟩=some (.int .u32 (u x.e))∧w.cell? ⟨b,6,none⟩=some (.int .u32 (u x.f))∧w.cell? ⟨b,7,none⟩=some (.int .u32 (u x.g))∧w.cell? ⟨b,8,none⟩=some (.int .u32 (u x.h))∧w.cell? ⟨b,9,none⟩=some (.string r)∧w.cell? ⟨b,10,none⟩=some (.int .i64 n):=
 ⟨h.cell 1,h.cell 2,h.cell 3,h.cell 4,h.cell 5,h.cell 6,h.cell 7,h.cell 8,h.cell 9,h.cell 10⟩
theorem HashAt.alloc{w:World}{b:Nat}{m:Bool}{x:S8}{r:ByteArray}{n:Int}(h:HashAt w b m x r n)(o:Obj):HashAt (w.alloc o) b m x r n:=(Below.heap_alloc w o b h.lt).trans h
def Zst:Obj:=(.cells #[.int .u32 0,.int .u32 0,.int .u32 0,.int .u32 0,.int .u32 0,.int .u32 0,.int .u32 0,.int .u32 0] 208)
theorem zero8{w2:World}{g:Nat}(h:w2.heap[g]? = some Zst):w2.cell? ⟨g,0,none⟩=some (.int .u32 0)∧w2.cell? ⟨g,1,none⟩=some (.int .u32 0)∧w2.cell? ⟨g,2,none⟩=some (.int .u32 0)∧w2.cell? ⟨g,3,none⟩=some (.int .u32 0)∧w2.cell? ⟨g,4,none⟩=some (.int .u32 0)∧w2.cell? ⟨g,5,none⟩=some (.int .u32 0)∧w2.cell? ⟨g,6,none⟩=some (.int .u32 0)∧w2.cell? ⟨g,7,none⟩=some (.int .u32 0)∧w2.frozen? ⟨g,0,none⟩=false∧w2.frozen? ⟨g,1,none⟩=false∧w2.frozen? ⟨g,2,none⟩=false∧w2.frozen? ⟨g,3,none⟩=false∧w2.frozen? ⟨g,4,none⟩=false∧w2.frozen? ⟨g,5,none⟩=false∧w2.frozen? ⟨g,6,none⟩=false∧w2.frozen? ⟨g,7,none⟩=false:=
 ⟨cell_of_row w2 g 0 _ _ _ h,cell_of_row w2 g 1 _ _ _ h,cell_of_row w2 g 2 _ _ _ h,cell_of_row w2 g 3 _ _ _ h,cell_of_row w2 g 4 _ _ _ h,cell_of_row w2 g 5 _ _ _ h,cell_of_row w2 g 6 _ _ _ h,cell_of_row w2 g 7 _ _ _ h,frozen_of_row w2 g 0 _ _ h,frozen_of_row w2 g 1 _ _ h,frozen_of_row w2 g 2 _ _ h,frozen_of_row w2 g 3 _ _ h,frozen_of_row w2 g 4 _ _ h,frozen_of_row w2 g 5 _ _ h,frozen_of_row w2 g 6 _ _ h,frozen_of_row w2 g 7 _ _ h⟩
theorem zst_new{w1 w2:World}(hb:Below (w1.alloc (.cells #[.int .u32 0,.int .u32 0,.int .u32 0,.int .u32 0,.int .u32 0,.int .u32 0,.int .u32 0,.int .u32 0] 208)).heap.size (w1.alloc (.cells #[.int .u32 0,.int .u32 0,.int .u32 0,.int .u32 0,.int .u32 0,.int .u32 0,.int .u32 0,.int .u32 0] 208)) w2):w2.heap[w1.heap.size]? = some Zst:=(hb.block _ (by simp)).trans (heap_alloc_last w1 _)
theorem zst_newd{w1 w2:World}(hb:Below (w1.alloc (.cells #[.int .u32 0,.int .u32 0,.int .u32 0,.int .u32 0,.int .u32 0,.int .u32 0,.int .u32 0,.int .u32 0] 208)).drew.heap.size (w1.alloc (.cells #[.int .u32 0,.int .u32 0,.int .u32 0,.int .u32 0,.int .u32 0,.int .u32 0,.int .u32 0,.int .u32 0] 208)).drew w2):w2.heap[w1.heap.size]? = some Zst:=(hb.block _ (by simp)).trans (heap_alloc_last w1 _)
theorem zst_old{w1 w2:World}{g B:Nat}(h:w1.heap[g]? = some Zst)(hb:Below B w1 w2)(hlt:g < B):w2.heap[g]? = some Zst:=(hb.block _ hlt).trans h
theorem zst_lt{w1:World}{g:Nat}(h:w1.heap[g]? = some Zst):g < w1.heap.size:=(Array.getElem?_eq_some_iff.1 h).1
theorem HashAt.other{w:World}{b:Nat}{m:Bool}{x:S8}{r:ByteArray}{n:Int}(h:HashAt w b m x r n)(a:Addr)(v:Value)(hne:b≠a.block):HashAt (w.setCell a v) b m x r n:=(heap_setCell_other w a b v hne).trans h
theorem HashAt.other8{w:World}{b g:Nat}{m:Bool}{x:S8}{r:ByteArray}{n:Int}(h:HashAt w b m x r n)(hne:b≠g)(y:S8):HashAt ((((((((w.setCell ⟨g,0,none⟩ (.int .u32 (u y.a))).setCell ⟨g,1,none⟩ (.int .u32 (u y.b))).setCell ⟨g,2,none⟩ (.int .u32 (u y.c))).setCell ⟨g,3,none⟩ (.int .u32 (u y.d))).setCell ⟨g,4,none⟩ (.int .u32 (u y.e))).setCell ⟨g,5,none⟩ (.int .u32 (u y.f))).setCell ⟨g,6,none⟩ (.int .u32 (u y.g))).setCell ⟨g,7,none⟩ (.int .u32 (u y.h))) b m x r n:=
 (((((((h.other _ _ hne).other _ _ hne).other _ _ hne).other _ _ hne).other _ _ hne).other _ _ hne).other _ _ hne).other _ _ hne
theorem st8{w:World}{g:Nat}(h:w.heap[g]? = some Zst)(y:S8):Row 208 ((((((((w.setCell ⟨g,0,none⟩ (.int .u32 (u y.a))).setCell ⟨g,1,none⟩ (.int .u32 (u y.b))).setCell ⟨g,2,none⟩ (.int .u32 (u y.c))).setCell ⟨g,3,none⟩ (.int .u32 (u y.d))).setCell ⟨g,4,none⟩ (.int .u32 (u y.e))).setCell ⟨g,5,none⟩ (.int .u32 (u y.f))).setCell ⟨g,6,none⟩ (.int .u32 (u y.g))).setCell ⟨g,7,none⟩ (.int .u32 (u y.h))) g (S8.words y):=
 setAt (setAt (setAt (setAt (setAt (setAt (setAt (setAt (l:=[.int .u32 0,.int .u32 0,.int .u32 0,.int .u32 0,.int .u32 0,.int .u32 0,.int .u32 0,.int .u32 0]) h 0 _) 1 _) 2 _) 3 _) 4 _) 5 _) 6 _) 7 _
theorem below8{B:Nat}{w0 w:World}{g:Nat}(h:Below B w0 w)(hB:B≤g)(y:S8):Below B w0 ((((((((w.setCell ⟨g,0,none⟩ (.int .u32 (u y.a))).setCell ⟨g,1,none⟩ (.int .u32 (u y.b))).setCell ⟨g,2,none⟩ (.int .u32 (u y.c))).setCell ⟨g,3,none⟩ (.int .u32 (u y.d))).setCell ⟨g,4,none⟩ (.int .u32 (u y.e))).setCell ⟨g,5,none⟩ (.int .u32 (u y.f))).setCell ⟨g,6,none⟩ (.int .u32 (u y.g))).setCell ⟨g,7,none⟩ (.int .u32 (u y.h))):=
 (((((((h.setCell hB _).setCell hB _).setCell hB _).setCell hB _).setCell hB _).setCell hB _).setCell hB _).setCell hB _
set_option maxRecDepth 100000 in
set_option maxHeartbeats 8000000 in
theorem sum_at(b:Nat)(x:S8)(r:ByteArray)(n:Nat)(w:World)(h:HashAt w b true x r n)(hn:n≤900000)(hr:r.size < 64) :
  Calls Tryz.prog 83 #[.pointer (some ⟨b,0,none⟩)] w fun e w'=>e = .returned (.string ⟨(run x ((r.size+(tail n).length) / 64) (r.data.toList++tail n)).bytes.toArray⟩)∧Below w.heap.size w w':=by
 have h0:w.cell? ⟨b,0,none⟩=some (.bool true):=h.cell 0
 have hlt:=h.lt
 obtain⟨ts,hts⟩:∃ ts:ByteArray,ts=⟨(tail n).toArray⟩:=⟨_,rfl⟩
 have hsz:ts.size=(tail n).length:=by rw[hts];show(tail n).toArray.size=_;simp
 have hdt:ts.data.toList=tail n:=by rw[hts]
 have hend:=end_any n (by omega)
 rw[← hts]at hend
 have htl:=tail_len n
 have hts2:ts.size≤72:=by omega
 have hrs:(r++ts).size≤1000000:=by rw[ByteArray.size_append];omega
 have hno:¬ (9223372036854775807 < r.size+ts.size):=by omega
 have hno2:r.size+ts.size≤9223372036854775807:=by omega
 have HSZ:=Lib.hid hsz
 have HDT:=Lib.hid hdt
 have HTL:=Lib.hid htl
 have HEND:=Lib.hid hend
 clear hts hsz hdt htl hend
 obtain⟨ten1,ten2,ten3,ten4,ten5,ten6,ten7,ten8,ten9,ten10⟩:=h.ten
 go_enter Tryz.func83,Tryz.ntmps83
 go_wp2_with (go_at_call 116;refine(is_at b true _ h0).mono ?_;rintro e w' ⟨rfl,rfl⟩)
 have hd:HashAt w.drew b true x r n:=h
 have hne0:b≠w.heap.size:=Nat.ne_of_lt hlt
 have hltd:b < w.drew.heap.size:=hlt
 have hda:∀ o,HashAt (w.alloc o).drew b true x r n:=fun o=>HashAt.alloc h o
 go_region_held3 (fun w'=>w'.cell? ⟨b,1,none⟩=some (.int .u32 (u x.a))∧w'.cell? ⟨b,2,none⟩=some (.int .u32 (u x.b))∧w'.cell? ⟨b,3,none⟩=some (.int .u32 (u x.c))∧w'.cell? ⟨b,4,none⟩=some (.int .u32 (u x.d))∧w'.cell? ⟨b,5,none⟩=some (.int .u32 (u x.e))∧w'.cell? ⟨b,6,none⟩=some (.int .u32 (u x.f))∧w'.cell? ⟨b,7,none⟩=some (.int .u32 (u x.g))∧w'.cell? ⟨b,8,none⟩=some (.int .u32 (u x.h))∧w'.cell? ⟨b,9,none⟩=some (.string r)∧w'.cell? ⟨b,10,none⟩=some (.int .i64 n)) (first | (with_reducible exact HashAt.ten hd) | (with_reducible exact HashAt.ten (hda _)) | (with_reducible exact HashAt.ten ‹HashAt _ b true x r n›) | (with_reducible exact HashAt.ten (HashAt.alloc ‹HashAt _ b true x r n› _)) | (with_reducible exact HashAt.ten (HashAt.other8 ‹HashAt _ b true x r n› (by assumption) _))) (first | (go_at_call 118;refine(HEND.out _).mono ?_;rintro e w1 ⟨rfl,hb1⟩;have hZ1:HashAt w1 b true x r n:=(by first | with_reducible exact HashAt.below hd hb1 hltd | with_reducible exact HashAt.below (hda _) hb1 (by have:=hlt;simp;omega));(first | (with_reducible have hA1:=zst_newd hb1) | skip)) | (go_at_call 117;refine(blocks_lit x _ hrs _).mono ?_;rintro e w2 ⟨⟨y,r',rfl,hy,hr'⟩,hb2⟩;have hne1:b≠w1.heap.size:=Nat.ne_of_lt hZ1.lt;have hZ2:HashAt w2 b true x r n:=(by first | with_reducible exact hZ1.below hb2 hZ1.lt | with_reducible exact(hZ1.alloc _).below hb2 (by have:=hZ1.lt;simp;omega));(first | (with_reducible have hz9:=zst_new hb2;obtain⟨q0,q1,q2,q3,q4,q5,q6,q7,p0,p1,p2,p3,p4,p5,p6,p7⟩:=zero8 hz9;clear hz9) | (with_reducible have hz9:=zst_old hA1 hb2 (zst_lt hA1);obtain⟨q0,q1,q2,q3,q4,q5,q6,q7,p0,p1,p2,p3,p4,p5,p6,p7⟩:=zero8 hz9;clear hz9) | skip)))
 ·skip
  have hF:Row 208 (w2.alloc (.cells #[.int .u32 (u y.a),.int .u32 (u y.b),.int .u32 (u y.c),.int .u32 (u y.d),.int .u32 (u y.e),.int .u32 (u y.f),.int .u32 (u y.g),.int .u32 (u y.h)] 208)) w2.heap.size (S8.words y):=Row.new _ w2 (S8.words y)
  have hBF:Below w.heap.size w (w2.alloc (.cells #[.int .u32 (u y.a),.int .u32 (u y.b),.int .u32 (u y.c),.int .u32 (u y.d),.int .u32 (u y.e),.int .u32 (u y.f),.int .u32 (u y.g),.int .u32 (u y.h)] 208)):=(((bdN' (n:=1) (Below.refl w.heap.size w)).trans (hb1.trans (hb2.mono (by have:=hb1.size;simpa using this)))).alloc (by have:=hb1.size;have:=hb2.size;simp at *;omega) _)
  generalize (w2.alloc (.cells #[.int .u32 (u y.a),.int .u32 (u y.b),.int .u32 (u y.c),.int .u32 (u y.d),.int .u32 (u y.e),.int .u32 (u y.f),.int .u32 (u y.g),.int .u32 (u y.h)] 208))=WF at *
  generalize w2.heap.size=G at hF ⊢
  have hGs:w.heap.size≤WF.heap.size:=hBF.size
  clear ten1 ten2 ten3 ten4 ten5 ten6 ten7 ten8 ten9 ten10
  go_wp2_with (first
   | (refine wpList_load_row rfl 208 _ rfl G rfl 208 (Us (S8.words y)).toArray (0,0) _ hF Tryz.underlying208 rfl (by rw[info35];rfl) ?_)
   | (go_at_call 119;refine(bytes_any y _).mono ?_;rintro e w4 ⟨rfl,hb4⟩))
  go_ret
  refine⟨?_,hBF.trans (hb4.mono hGs)⟩
  have e1:y=run x ((r.size+(tail n).length) / 64) (r.data.toList++tail n):=by
   rw[← HSZ.out,← HDT.out,← append_data,← ByteArray.size_append];exact hy.out
  rw[← e1]
  rfl
 ·clear q0 q1 q2 q3 q4 q5 q6 q7 p0 p1 p2 p3 p4 p5 p6 p7
  have hF:Row 208 ((((((((w2.setCell ⟨w1.heap.size,0,none⟩ (.int .u32 (u y.a))).setCell ⟨w1.heap.size,1,none⟩ (.int .u32 (u y.b))).setCell ⟨w1.heap.size,2,none⟩ (.int .u32 (u y.c))).setCell ⟨w1.heap.size,3,none⟩ (.int .u32 (u y.d))).setCell ⟨w1.heap.size,4,none⟩ (.int .u32 (u y.e))).setCell ⟨w1.heap.size,5,none⟩ (.int .u32 (u y.f))).setCell ⟨w1.heap.size,6,none⟩ (.int .u32 (u y.g))).setCell ⟨w1.heap.size,7,none⟩ (.int .u32 (u y.h))) w1.heap.size (S8.words y):=st8 (zst_new hb2) y
  have hBF:Below w.heap.size w ((((((((w2.setCell ⟨w1.heap.size,0,none⟩ (.int .u32 (u y.a))).setCell ⟨w1.heap.size,1,none⟩ (.int .u32 (u y.b))).setCell ⟨w1.heap.size,2,none⟩ (.int .u32 (u y.c))).setCell ⟨w1.heap.size,3,none⟩ (.int .u32 (u y.d))).setCell ⟨w1.heap.size,4,none⟩ (.int .u32 (u y.e))).setCell ⟨w1.heap.size,5,none⟩ (.int .u32 (u y.f))).setCell ⟨w1.heap.size,6,none⟩ (.int .u32 (u y.g))).setCell ⟨w1.heap.size,7,none⟩ (.int .u32 (u y.h))):=below8 (((bdN' (n:=1) (Below.refl w.heap.size w)).trans hb1).alloc (by have:=hb1.size;simp at *;omega) _ |>.trans (hb2.mono (by have:=hb1.size;simp at *;omega))) (by have:=hb1.size;simp at *;omega) y
  generalize ((((((((w2.setCell ⟨w1.heap.size,0,none⟩ (.int .u32 (u y.a))).setCell ⟨w1.heap.size,1,none⟩ (.int .u32 (u y.b))).setCell ⟨w1.heap.size,2,none⟩ (.int .u32 (u y.c))).setCell ⟨w1.heap.size,3,none⟩ (.int .u32 (u y.d))).setCell ⟨w1.heap.size,4,none⟩ (.int .u32 (u y.e))).setCell ⟨w1.heap.size,5,none⟩ (.int .u32 (u y.f))).setCell ⟨w1.heap.size,6,none⟩ (.int .u32 (u y.g))).setCell ⟨w1.heap.size,7,none⟩ (.int .u32 (u y.h)))=WF at *
  generalize w1.heap.size=G at hF ⊢
  have hGs:w.heap.size≤WF.heap.size:=hBF.size
  clear ten1 ten2 ten3 ten4 ten5 ten6 ten7 ten8 ten9 ten10
  go_wp2_with (first
   | (refine wpList_load_row rfl 208 _ rfl G rfl 208 (Us (S8.words y)).toArray (0,0) _ hF Tryz.underlying208 rfl (by rw[info35];rfl) ?_)
   | (go_at_call 119;refine(bytes_any y _).mono ?_;rintro e w4 ⟨rfl,hb4⟩))
  go_ret
  refine⟨?_,hBF.trans (hb4.mono hGs)⟩
  have e1:y=run x ((r.size+(tail n).length) / 64) (r.data.toList++tail n):=by
   rw[← HSZ.out,← HDT.out,← append_data,← ByteArray.size_append];exact hy.out
  rw[← e1]
  rfl
 ·clear q0 q1 q2 q3 q4 q5 q6 q7 p0 p1 p2 p3 p4 p5 p6 p7
  have hF:Row 208 ((((((((w2.setCell ⟨w.heap.size,0,none⟩ (.int .u32 (u y.a))).setCell ⟨w.heap.size,1,none⟩ (.int .u32 (u y.b))).setCell ⟨w.heap.size,2,none⟩ (.int .u32 (u y.c))).setCell ⟨w.heap.size,3,none⟩ (.int .u32 (u y.d))).setCell ⟨w.heap.size,4,none⟩ (.int .u32 (u y.e))).setCell ⟨w.heap.size,5,none⟩ (.int .u32 (u y.f))).setCell ⟨w.heap.size,6,none⟩ (.int .u32 (u y.g))).setCell ⟨w.heap.size,7,none⟩ (.int .u32 (u y.h))) w.heap.size (S8.words y):=st8 (zst_old hA1 hb2 (zst_lt hA1)) y
  have hBF:Below w.heap.size w ((((((((w2.setCell ⟨w.heap.size,0,none⟩ (.int .u32 (u y.a))).setCell ⟨w.heap.size,1,none⟩ (.int .u32 (u y.b))).setCell ⟨w.heap.size,2,none⟩ (.int .u32 (u y.c))).setCell ⟨w.heap.size,3,none⟩ (.int .u32 (u y.d))).setCell ⟨w.heap.size,4,none⟩ (.int .u32 (u y.e))).setCell ⟨w.heap.size,5,none⟩ (.int .u32 (u y.f))).setCell ⟨w.heap.size,6,none⟩ (.int .u32 (u y.g))).setCell ⟨w.heap.size,7,none⟩ (.int .u32 (u y.h))):=below8 ((bdN' (n:=1) ((Below.refl w.heap.size w).alloc (Nat.le_refl _) _)).trans ((hb1.mono (by simp)).trans (hb2.mono (by have:=hb1.size;simp at *;omega)))) (Nat.le_refl _) y
  generalize ((((((((w2.setCell ⟨w.heap.size,0,none⟩ (.int .u32 (u y.a))).setCell ⟨w.heap.size,1,none⟩ (.int .u32 (u y.b))).setCell ⟨w.heap.size,2,none⟩ (.int .u32 (u y.c))).setCell ⟨w.heap.size,3,none⟩ (.int .u32 (u y.d))).setCell ⟨w.heap.size,4,none⟩ (.int .u32 (u y.e))).setCell ⟨w.heap.size,5,none⟩ (.int .u32 (u y.f))).setCell ⟨w.heap.size,6,none⟩ (.int .u32 (u y.g))).setCell ⟨w.heap.size,7,none⟩ (.int .u32 (u y.h)))=WF at *
  generalize w.heap.size=G at hF ⊢
  have hGs:w.heap.size≤WF.heap.size:=hBF.size
  clear ten1 ten2 ten3 ten4 ten5 ten6 ten7 ten8 ten9 ten10
  go_wp2_with (first
   | (refine wpList_load_row rfl 208 _ rfl G rfl 208 (Us (S8.words y)).toArray (0,0) _ hF Tryz.underlying208 rfl (by rw[info35];rfl) ?_)
   | (go_at_call 119;refine(bytes_any y _).mono ?_;rintro e w4 ⟨rfl,hb4⟩))
  go_ret
  refine⟨?_,hBF.trans (hb4.mono hGs)⟩
  have e1:y=run x ((r.size+(tail n).length) / 64) (r.data.toList++tail n):=by
   rw[← HSZ.out,← HDT.out,← append_data,← ByteArray.size_append];exact hy.out
  rw[← e1]
  rfl
end Go.Proofs.YtlmabbigfdbmbaaGreatDoor.Dig
namespace Go.Proofs.YtlmabbigfdbmbaaGreatDoor.Dig
open Go.RowKit Go.Proofs.YtlmabbigfdbmbaaGreatDoor.Sha Go.Proofs.YtlmabbigfdbmbaaGreatDoor.Ord Go.Proofs.YtlmabbigfdbmbaaGreatDoor.Base
def Holds(w:World)(b:Nat)(l:List UInt8):Prop:=
 ∃ r:ByteArray,HashAt w b true (run init (l.length / 64) l) r ((l.length:Nat):Int)∧r.data.toList=l.drop (64 * (l.length / 64))
theorem rest_size{r:ByteArray}{l:List UInt8}(hr:r.data.toList=l.drop (64 * (l.length / 64))):r.size=l.length % 64:=by
 have h:r.data.toList.length=(l.drop (64 * (l.length / 64))).length:=by rw[hr]
 simp only[List.length_drop,Array.length_toList]at h
 have:r.size=r.data.size:=rfl
 omega
theorem new_holds(w:World) :
  Calls Tryz.prog 81 #[] w fun e w'=>∃ b,e = .returned (.pointer (some ⟨b,0,none⟩))∧w.heap.size≤b∧Holds w' b []∧Below w.heap.size w w':=
 (new_any w).mono fun _ _ ⟨b,he,hb,hh,hbl⟩=>⟨b,he,hb,⟨⟨#[]⟩,hh,rfl⟩,hbl⟩
theorem run_more(l s:List UInt8)(q:Nat)(hq:q=l.length / 64)(m:Nat):run (run init q l) m (l.drop (64 * q)++s)=run init (q+m) (l++s):=by
 rw[run_add,run_pre init q l s (by omega),List.drop_append_of_le_length (by omega)]
theorem put_holds(b:Nat)(l:List UInt8)(s:ByteArray)(w:World)(h:Holds w b l)(hl:l.length≤800000)(hs:s.size≤800000) :
  Calls Tryz.prog 82 #[.pointer (some ⟨b,0,none⟩),.string s] w fun e w'=>e = .returned (.int .i64 0)∧Holds w' b (l++s.data.toList)∧w.grownBy w' (some b):=by
 obtain⟨r,h,hr⟩:=h
 have hrs:=rest_size hr
 refine(put_at b _ r s l.length w h (by omega) (by omega) (by omega)).mono ?_
 rintro e w' ⟨he,⟨r',hh,hr'⟩,hg⟩
 refine⟨he,⟨r',?_,?_⟩,hg⟩
 ·have hlen:(l++s.data.toList).length=l.length+s.size:=by simp
  rw[hr,run_more l _ _ rfl]at hh
  have e1:l.length / 64+(r.size+s.size) / 64=(l.length+s.size) / 64:=by omega
  rw[hlen,← e1]
  exact hh
 ·have hlen:(l++s.data.toList).length=l.length+s.size:=by simp
  rw[hr',hr,hlen]
  have e1:64 * ((l.length+s.size) / 64)=64 * (l.length / 64)+64 * ((r.size+s.size) / 64):=by omega
  have e2:(l++s.data.toList).drop (64 * (l.length / 64))=l.drop (64 * (l.length / 64))++s.data.toList:=List.drop_append_of_le_length (by omega)
  rw[e1,← List.drop_drop,e2]
theorem sum_holds(b:Nat)(l:List UInt8)(w:World)(h:Holds w b l)(hl:l.length≤800000) :
  Calls Tryz.prog 83 #[.pointer (some ⟨b,0,none⟩)] w fun e w'=>e = .returned (.string ⟨(sum l).toArray⟩)∧Below w.heap.size w w':=by
 obtain⟨r,h,hr⟩:=h
 have hrs:=rest_size hr
 refine(sum_at b _ r l.length w h (by omega) (by omega)).mono ?_
 rintro e w' ⟨he,hb⟩
 refine⟨?_,hb⟩
 rw[he,hr,run_more l _ _ rfl]
 have htl:=tail_len l.length
 have e1:l.length / 64+(r.size+(tail l.length).length) / 64=(l.length+(tail l.length).length) / 64:=by omega
 rw[e1];rfl
set_option maxRecDepth 100000 in
set_option maxHeartbeats 8000000 in
theorem sum_any(s:ByteArray)(hs:s.size≤800000)(w:World) :
  Calls Tryz.prog 54 #[.string s] w fun e w'=>e = .returned (.string ⟨(sum s.data.toList).toArray⟩)∧Below w.heap.size w w':=by
 have hsl:s.data.toList.length≤800000:=by simpa using hs
 have HSL:=Lib.hid hsl
 clear hsl
 go_enter Tryz.func54,Tryz.ntmps54
 go_wp2_with fail
 refine(new_holds _).mono ?_
 rintro e w1 ⟨b,rfl,hbge,hH,hb1⟩
 go_wp2_with fail
 refine(put_holds b [] s _ hH (by simp) (by omega)).mono ?_
 rintro e w2 ⟨rfl,hH2,hg⟩
 go_wp2_with fail
 refine(sum_holds b _ _ hH2 (by simpa using HSL.out)).mono ?_
 rintro e w3 ⟨rfl,hb3⟩
 go_wp2_with fail
 go_ret
 have hb2:=hb1.size
 refine⟨by rfl,(hb1.grown hg hb2 (fun k hk=>by injection hk with hk;omega)).trans (hb3.mono (by have:=hg.size;omega))⟩
end Go.Proofs.YtlmabbigfdbmbaaGreatDoor.Dig
