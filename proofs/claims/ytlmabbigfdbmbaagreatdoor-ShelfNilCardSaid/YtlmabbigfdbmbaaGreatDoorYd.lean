/- Texts of one proof, joined: Ea, Eb, Ec, Ed, Ee, Ox, Ef, Eg, Eh, Ei, Ej, Ek, Em, QWA, Ga, Gb, Shelf. -/
import Derived.Test.YtlmabbigfdbmbaaGreatDoorYb
import Derived.Test.YtlmabbigfdbmbaaGreatDoorYc
import Derived.Deep.AppendLies
import Derived.Lib.Hide
import Derived.Lib.BufferWrite
import Derived.Great.BuildSlice
import Derived.OwnWalk
import Derived.RangeFuncBox
import Derived.RangeFuncNested
import Derived.RangeFuncBound
import Derived.RangeFuncCalls
import Derived.RangeFuncLeaves
import Derived.Shelf.Abstract
import Derived.OwnWalkIn
import Derived.TacticsInMore
import Derived.LoopNIn
import Derived.LoopIn
import Derived.Maps.OwnSet
import Derived.Maps.Views
import Derived.Lib.Strings
import Derived.Laws.BitsLemmas
import Derived.Shelf.Strings.Builder1
import Derived.Shelf.Strings.Builder2
import Derived.Shelf.Strings.OnBuilder
import Derived.Shelf.Strings.Trim
import Derived.Shelf.Strings.Search1
import Derived.Shelf.Unicode.DecodeSlow
import Derived.Shelf.Unicode.DecodeAny
import Derived.Ground.SlgfProg
import Derived.Shelf.SlicesE.IndexFunc
import Derived.Test.YtlmabbigfdbmbaaGreatDoorProg
set_option linter.unusedSimpArgs false
set_option linter.unusedVariables false
namespace Go.Proofs.YtlmabbigfdbmbaaGreatDoor.Drum
open Go.RowKit Go.Proofs.YtlmabbigfdbmbaaGreatDoor.Ord Go.Proofs.YtlmabbigfdbmbaaGreatDoorW.PrintWords Go.Proofs.YtlmabbigfdbmbaaGreatDoor.Base
structure Mod(F:Nat→Prop)(w w':World):Prop where
 os:w'.os=w.os
 tape:w'.tape=w.tape
 output:w'.output=w.output
 size:w.heap.size≤w'.heap.size
 block:∀ k,k < w.heap.size→¬ F k→w'.heap[k]? = w.heap[k]?
theorem Mod.refl(F:Nat→Prop)(w:World):Mod F w w:=⟨rfl,rfl,rfl,Nat.le_refl _,fun _ _ _=>rfl⟩
theorem Mod.trans{F G:Nat→Prop}{a b c:World}(h:Mod F a b)(k:Mod G b c)(hG:∀ i,G i→F i∨a.heap.size≤i):Mod F a c:=
 ⟨k.os.trans h.os,k.tape.trans h.tape,k.output.trans h.output,Nat.le_trans h.size k.size,fun i hi hF=>
  (k.block i (Nat.lt_of_lt_of_le hi h.size) (fun hg=>by rcases hG i hg with x | x;exact hF x;omega)).trans (h.block i hi hF)⟩
theorem Mod.below{F:Nat→Prop}{B:Nat}{w w':World}(h:Mod F w w')(hB:B≤w.heap.size)(hF:∀ i,F i→B≤i):Below B w w':=
 ⟨h.os,h.tape,h.output,h.size,fun k hk=>h.block k (by omega) (fun hf=>by have:=hF k hf;omega)⟩
theorem Mod.of_below{F:Nat→Prop}{w w':World}(h:Below w.heap.size w w'):Mod F w w':=⟨h.os,h.tape,h.output,h.size,fun k hk _=>h.block k hk⟩
theorem Mod.of_grown{F:Nat→Prop}{w w':World}{row:Option Nat}(h:w.grownBy w' row)(hF:∀ k,row=some k→F k):Mod F w w':=
 ⟨h.os,h.tape,h.output,h.size,fun k hk hf=>h.block k hk (fun e=>hf (hF k e.symm))⟩
theorem Mod.setCell{F:Nat→Prop}(w:World)(a:Addr)(v:Value)(ha:F a.block):Mod F w (w.setCell a v):=
 ⟨rfl,rfl,rfl,by simp[World.setCell],fun k _ hf=>Below.heap_setCell _ _ _ _ (fun e=>hf (e▸ha))⟩
theorem Mod.mono{F G:Nat→Prop}{w w':World}(h:Mod F w w')(hFG:∀ i,F i→G i):Mod G w w':=
 ⟨h.os,h.tape,h.output,h.size,fun k hk hg=>h.block k hk (fun hf=>hg (hFG k hf))⟩
theorem Mod.drew{F:Nat→Prop}{w w':World}(h:Mod F w w'):Mod F w w'.drew:=⟨h.os,h.tape,h.output,h.size,h.block⟩
structure DS where
 sure:List (List UInt8)
 loose:List (Nat × List UInt8)
 armed:Bool
 left:Int
 down:Bool
def secCells(s:List UInt8):List Value:=nums .u8 (ints s)
def sureCells(l:List (List UInt8)):List Value:=l.flatMap secCells
def looseCells(l:List (Nat × List UInt8)):List Value:=l.flatMap fun p=>secCells p.2 ++ [.int .i64 (p.1:Int)]
theorem secCells_len(s:List UInt8):(secCells s).length=s.length:=by simp[secCells,nums,ints]
def DCell(w:World)(b:Nat)(sv lv:Value)(armed:Bool)(left:Int)(down:Bool):Prop:=
 w.heap[b]? = some (.cells #[sv,lv,.bool armed,.int .i64 left,.bool down] 122 (0,0))
theorem DCell.cells{w:World}{b:Nat}{sv lv:Value}{armed down:Bool}{left:Int}(h:DCell w b sv lv armed left down) :
  w.cell? ⟨b,0,none⟩=some sv∧w.cell? ⟨b,1,none⟩=some lv∧w.cell? ⟨b,2,none⟩=some (.bool armed)∧w.cell? ⟨b,3,none⟩=some (.int .i64 left)∧w.cell? ⟨b,4,none⟩=some (.bool down):=by
 unfold DCell at h;simp[World.cell?,h]
theorem DCell.free{w:World}{b:Nat}{sv lv:Value}{armed down:Bool}{left:Int}(h:DCell w b sv lv armed left down)(i:Nat):w.frozen? ⟨b,i,none⟩=false:=frozen_of_row w b i _ _ h
theorem DCell.lt{w:World}{b:Nat}{sv lv:Value}{armed down:Bool}{left:Int}(h:DCell w b sv lv armed left down):b < w.heap.size:=(Array.getElem?_eq_some_iff.1 h).1
theorem DCell.kept{F:Nat→Prop}{w w':World}{b:Nat}{sv lv:Value}{armed down:Bool}{left:Int}(h:DCell w b sv lv armed left down)(hm:Mod F w w')(hb:¬ F b):DCell w' b sv lv armed left down:=
 (hm.block b h.lt hb).trans h
structure DrumAt(w:World)(b sb:Nat)(cap:Nat)(lv:Value)(D:DS):Prop where
 cell:DCell w b (.slice (some ⟨sb,0,none⟩) D.sure.length cap) lv D.armed D.left D.down
 sure:w.ownsRow 0 180 64 (.slice (some ⟨sb,0,none⟩) D.sure.length cap) D.sure.length (sureCells D.sure)
 loose:w.ownsRow 0 182 65 lv D.loose.length (looseCells D.loose)
 ne:b≠sb
 nel:lv.ownBlock≠some b
 nes:lv.ownBlock≠some sb
 pos:0 < D.sure.length
 few:D.sure.length≤4096
 wsure:∀ s∈D.sure,s.length=64
 wloose:∀ p∈D.loose,p.2.length=64∧p.1 < D.sure.length
def foot(b sb:Nat)(lv:Value)(k:Nat):Prop:=k=b∨k=sb∨lv.ownBlock=some k
theorem ownsRow_mod{F:Nat→Prop}{w w':World}{base:Nat}{e:TypeId}{size:Nat}{v:Value}{n:Nat}{xs:List Value}(h:w.ownsRow base e size v n xs)(hm:Mod F w w')(hv:∀ k,v.ownBlock=some k→¬ F k) :
  w'.ownsRow base e size v n xs:=by
 refine⟨h.1,?_⟩
 rcases h.2 with hn | ⟨g,cap,cur,rfl,hb,hg,rest⟩
 ·exact .inl hn
 ·exact .inr ⟨g,cap,cur,rfl,hb,(hm.block g ((Array.getElem?_eq_some_iff.1 hg).1) (hv g rfl)).trans hg,rest⟩
theorem DrumAt.kept{F:Nat→Prop}{w w':World}{b sb cap:Nat}{lv:Value}{D:DS}(h:DrumAt w b sb cap lv D)(hm:Mod F w w')(hF:∀ k,foot b sb lv k→¬ F k):DrumAt w' b sb cap lv D:=
 ⟨h.cell.kept hm (hF b (.inl rfl)),ownsRow_mod h.sure hm (fun k hk=>hF k (.inr (.inl (by simpa [Value.ownBlock] using hk.symm)))),ownsRow_mod h.loose hm (fun k hk=>hF k (.inr (.inr hk))),h.ne,h.nel,h.nes,h.pos,h.few,h.wsure,h.wloose⟩
end Go.Proofs.YtlmabbigfdbmbaaGreatDoor.Drum
namespace Go.Proofs.YtlmabbigfdbmbaaGreatDoor.Drum
open Go.RowKit Go.Proofs.YtlmabbigfdbmbaaGreatDoor.Ord Go.Proofs.YtlmabbigfdbmbaaGreatDoorW.PrintWords Go.Proofs.YtlmabbigfdbmbaaGreatDoor.Base
theorem made_nil(w:World):Calls Tryz.prog 66 #[.pointer none] w fun e w'=>e = .returned (.bool false)∧w=w':=by
 go_enter Tryz.func66,Tryz.ntmps66
 go_wp2
 go_ret
 exact⟨rfl,rfl⟩
theorem made_of(b:Nat)(a:Option Addr)(n cap:Nat)(w:World)(h:w.cell? ⟨b,0,none⟩=some (.slice a n cap)) :
  Calls Tryz.prog 66 #[.pointer (some ⟨b,0,none⟩)] w fun e w'=>e = .returned (.bool (decide (0 < n)))∧w=w':=by
 go_enter Tryz.func66,Tryz.ntmps66
 go_wp2
 go_ret
 exact⟨by simp,rfl⟩
theorem has_of(b:Nat)(a:Option Addr)(n cap:Nat)(i:Int)(w:World)(h:w.cell? ⟨b,0,none⟩=some (.slice a n cap)) :
  Calls Tryz.prog 161 #[.pointer (some ⟨b,0,none⟩),.int .i64 i] w fun e w'=>e = .returned (.bool (decide (0≤i∧i < (n:Int))))∧w=w':=by
 by_cases h0:0 < n
 ·by_cases h1:0≤i
  ·go_enter Tryz.func161,Tryz.ntmps161
   go_wp2_with fail
   refine(made_of b a n cap _ h).mono ?_
   rintro e w' ⟨rfl,rfl⟩
   go_wp2
   go_ret
   exact⟨by simp[h1],rfl⟩
  ·go_enter Tryz.func161,Tryz.ntmps161
   go_wp2_with fail
   refine(made_of b a n cap _ h).mono ?_
   rintro e w' ⟨rfl,rfl⟩
   go_wp2
   go_ret
   have hd:decide (0≤i)=false:=decide_eq_false (by omega)
   exact⟨by rw[hd];rfl,rfl⟩
 ·have hn:n=0:=by omega
  go_enter Tryz.func161,Tryz.ntmps161
  go_wp2_with fail
  refine(made_of b a n cap _ h).mono ?_
  rintro e w' ⟨rfl,rfl⟩
  go_wp2
  go_ret
  have hd:decide (0≤i∧i < (n:Int))=false:=decide_eq_false (by omega)
  exact⟨by rw[hd];rfl,rfl⟩
theorem size_nil(w:World):Calls Tryz.prog 96 #[.pointer none] w fun e w'=>e = .returned (.int .i64 0)∧w=w':=by
 go_enter Tryz.func96,Tryz.ntmps96
 go_wp2_with fail
 refine(made_nil _).mono ?_
 rintro e w' ⟨rfl,rfl⟩
 go_wp2
 go_ret
 exact⟨rfl,rfl⟩
theorem size_of(b:Nat)(a:Option Addr)(n cap:Nat)(w:World)(h:w.cell? ⟨b,0,none⟩=some (.slice a n cap))(hn:0 < n) :
  Calls Tryz.prog 96 #[.pointer (some ⟨b,0,none⟩)] w fun e w'=>e = .returned (.int .i64 (n:Int))∧w=w':=by
 go_enter Tryz.func96,Tryz.ntmps96
 go_wp2_with fail
 refine(made_of b a n cap _ h).mono ?_
 rintro e w' ⟨rfl,rfl⟩
 go_wp2
 go_ret
 exact⟨rfl,rfl⟩
theorem down_of(b:Nat)(a:Option Addr)(n cap:Nat)(d:Bool)(w:World)(h:w.cell? ⟨b,0,none⟩=some (.slice a n cap))(h':w.cell? ⟨b,4,none⟩=some (.bool d))(hn:0 < n) :
  Calls Tryz.prog 158 #[.pointer (some ⟨b,0,none⟩)] w fun e w'=>e = .returned (.bool d)∧w=w':=by
 go_enter Tryz.func158,Tryz.ntmps158
 go_wp2_with fail
 refine(made_of b a n cap _ h).mono ?_
 rintro e w' ⟨rfl,rfl⟩
 go_wp2
 go_ret
 exact⟨rfl,rfl⟩
end Go.Proofs.YtlmabbigfdbmbaaGreatDoor.Drum
namespace Go.Proofs.YtlmabbigfdbmbaaGreatDoor.Drum
open Go.RowKit Go.Proofs.YtlmabbigfdbmbaaGreatDoor.Ord Go.Proofs.YtlmabbigfdbmbaaGreatDoorW.PrintWords Go.Proofs.YtlmabbigfdbmbaaGreatDoor.Base
theorem cells_set{w:World}{b:Nat}{c:Array Value}{t:TypeId}(h:w.heap[b]? = some (.cells c t (0,0)))(i:Nat)(v:Value) :
  (w.setCell ⟨b,i,none⟩ v).heap[b]? = some (.cells (c.setIfInBounds i v) t (0,0)):=by
 simp[World.setCell,Array.getElem?_modify,h]
theorem DCell.set1{w:World}{b:Nat}{sv lv:Value}{armed down:Bool}{left:Int}(h:DCell w b sv lv armed left down)(v:Value):DCell (w.setCell ⟨b,1,none⟩ v) b sv v armed left down:=cells_set h 1 v
theorem DCell.set3{w:World}{b:Nat}{sv lv:Value}{armed down:Bool}{left:Int}(h:DCell w b sv lv armed left down)(v:Int):DCell (w.setCell ⟨b,3,none⟩ (.int .i64 v)) b sv lv armed v down:=cells_set h 3 _
theorem DCell.set4{w:World}{b:Nat}{sv lv:Value}{armed down:Bool}{left:Int}(h:DCell w b sv lv armed left down)(v:Bool):DCell (w.setCell ⟨b,4,none⟩ (.bool v)) b sv lv armed left v:=cells_set h 4 _
def burns(armed:Bool)(left:Int)(down:Bool):Int × Int × Bool:=
 if armed=true∧left=0 then (9,left,true)else if down=true then (9,left,down)else (0,IntKind.i64.wrap (left - 1),down)
set_option maxHeartbeats 8000000 in
theorem burn_at(b:Nat)(sv lv:Value)(armed down:Bool)(left:Int)(w:World)(h:DCell w b sv lv armed left down) :
  Calls Tryz.prog 162 #[.pointer (some ⟨b,0,none⟩)] w fun e w'=>e = .returned (.int .i64 (burns armed left down).1)∧
   DCell w' b sv lv armed (burns armed left down).2.1 (burns armed left down).2.2∧Mod (fun k=>k=b) w w':=by
 obtain⟨c0,c1,c2,c3,c4⟩:=h.cells
 have f3:=h.free 3
 have f4:=h.free 4
 have H:=Lib.hid h
 clear h c0 c1
 by_cases ha:armed=true∧left=0
 ·obtain⟨rfl,rfl⟩:=ha
  go_enter Tryz.func162,Tryz.ntmps162
  go_wp2
  go_ret
  exact⟨rfl,H.out.set4 true,Mod.setCell _ _ _ rfl⟩
 ·cases down with
  | true=>
   have e:burns armed left true=(9,left,true):=by unfold burns;rw[if_neg ha,if_pos rfl]
   rw[e]
   cases armed with
   | true=>
    have hl:left≠0:=fun e=>ha ⟨rfl,e⟩
    clear e ha
    go_enter Tryz.func162,Tryz.ntmps162
    go_wp2
    go_ret
    exact⟨rfl,H.out,Mod.refl _ _⟩
   | false=>
    clear e ha
    go_enter Tryz.func162,Tryz.ntmps162
    go_wp2
    go_ret
    exact⟨rfl,H.out,Mod.refl _ _⟩
  | false=>
   have e:burns armed left false=(0,IntKind.i64.wrap (left - 1),false):=by unfold burns;rw[if_neg ha,if_neg (by simp)]
   rw[e]
   obtain⟨nl,hnl⟩:∃ n,IntKind.i64.wrap (left - 1)=n:=⟨_,rfl⟩
   rw[hnl]
   cases armed with
   | true=>
    have hl:left≠0:=fun e=>ha ⟨rfl,e⟩
    clear e ha
    go_enter Tryz.func162,Tryz.ntmps162
    go_wp2
    go_ret
    exact⟨rfl,H.out.set3 nl,Mod.setCell _ _ _ rfl⟩
   | false=>
    clear e ha
    go_enter Tryz.func162,Tryz.ntmps162
    go_wp2
    go_ret
    exact⟨rfl,H.out.set3 nl,Mod.setCell _ _ _ rfl⟩
end Go.Proofs.YtlmabbigfdbmbaaGreatDoor.Drum
namespace Go.Proofs.YtlmabbigfdbmbaaGreatDoor.Drum
open Go.RowKit Go.Proofs.YtlmabbigfdbmbaaGreatDoor.Ord Go.Proofs.YtlmabbigfdbmbaaGreatDoorW.PrintWords Go.Proofs.YtlmabbigfdbmbaaGreatDoor.Base
theorem nums_ints(l:List UInt8):nums .u8 (ints l)=Lib.byteCells l:=by simp[nums,ints,Lib.byteCells]
theorem rep_cells(n:Nat):Lib.byteCells (List.replicate n 0)=List.replicate n (.int .u8 0):=by simp[Lib.byteCells]
theorem info_u8:(Tryz.prog.info? 5).map (·.size)=some 1:=by kernel_rfl
theorem run_copy_text{P:Program}(w:World)(dT sT ty elem:TypeId)(g dLen dCap:Nat)(s:ByteArray)(cur:Array Value)(t:TypeId)
  (hu:P.underlying dT=some (.slice elem)) (hs:(P.info? elem).map (·.size)=some 1) (hg:w.heap[g]? = some (.cells cur t (0,0))) (hfit:dLen≤cur.size) :
  (Builtin.copy_ #[dT,sT] ty #[.slice (some ⟨g,0,none⟩) dLen dCap,.string s]).run P w =
   .ok (goInt ((min s.size dLen:Nat):Int)) (w.setRow g (Lib.byteCells (s.data.toList.take dLen)++cur.toList.drop (min s.size dLen)).toArray):=by
 have hsz:s.data.toList.length=s.size:=by simp
 have hlen:(Lib.byteCells (s.data.toList.take dLen)).length=min s.size dLen:=by simp[Lib.byteCells,Nat.min_comm]
 have hst:=run_storeCells_at P g 0 t (Lib.byteCells (s.data.toList.take dLen)) 0 cur w hg (by rw[hlen];omega) (Lib.byteCells_one _)
 have htk:List.take (min s.size dLen) (List.map (fun b:UInt8=>Value.int IntKind.u8 (b.toNat:Int)) s.data.toList)=Lib.byteCells (s.data.toList.take dLen):=by
  rw[← List.map_take]
  unfold Lib.byteCells
  congr 1
  rw[List.take_eq_take_iff];omega
 rw[hlen]at hst
 simp only[Nat.add_zero]at hst
 cases hq:P.info? elem with
 | none=>simp[hq]at hs
 | some i=>
  have hm:Nat.min s.size dLen=min s.size dLen:=rfl
  simp[Builtin.copy_,run_underlying hu,Builtin.lenOf,Builtin.firstCells,sizeOf,typeInfo,hq,hm]
  rw[htk,hst]
  simp[Result.andThen]
def sec(s:ByteArray):List UInt8:=s.data.toList.take 64++List.replicate (64 - s.size) 0
set_option maxRecDepth 100000 in
set_option maxHeartbeats 8000000 in
theorem text_any(s:List UInt8)(hs:s.length=64)(w:World) :
  Calls Tryz.prog 204 #[.agg (secCells s).toArray] w fun e w'=>e = .returned (.string ⟨s.toArray⟩)∧NewMem w w':=by
 have hown:(w.alloc (.cells (secCells s).toArray 180)).ownsRow 0 180 1 (.slice (some ⟨w.heap.size,0,none⟩) 64 64) 64 (nums .u8 (ints s)):=
  ⟨by simp[nums,ints,hs],.inr ⟨_,64,_,rfl,Nat.zero_le _,heap_alloc_last w _,Nat.le_refl _,by decide,by simp[secCells_len,hs],List.take_of_length_le (by simp[secCells_len,hs])⟩⟩
 have hcv:=own_string (P:=Tryz.prog) (src:=129) (dst:=9) (e:=5) Tryz.underlying129 Tryz.underlying5 Tryz.underlying9 hown
 rw[str_ints]at hcv
 have HN:=Lib.hid (NewMem.alloc w (.cells (secCells s).toArray 180))
 generalize (⟨s.toArray⟩:ByteArray)=t at *
 clear hown
 go_enter Tryz.func204,Tryz.ntmps204
 go_wp2
 go_ret
 exact⟨rfl,HN.out⟩
end Go.Proofs.YtlmabbigfdbmbaaGreatDoor.Drum
namespace Go.Proofs.YtlmabbigfdbmbaaGreatDoor.Drum
open Go.RowKit Go.Proofs.YtlmabbigfdbmbaaGreatDoor.Ord Go.Proofs.YtlmabbigfdbmbaaGreatDoorW.PrintWords Go.Proofs.YtlmabbigfdbmbaaGreatDoor.Base
theorem info_sec:(Tryz.prog.info? 180).map (fun i=>(i.zero,i.size,i.bytes))=some (some (.agg (List.replicate 64 (.int .u8 0)).toArray),64,64):=by kernel_rfl
theorem madeCells_rep(v:Value)(m n:Nat)(hm:0 < m):madeCells (List.replicate m v).toArray n=(List.replicate n v).toArray:=by
 unfold madeCells
 apply Array.ext
 ·simp
 ·intro j h1 h2
  have hj:=Nat.mod_lt j hm
  simp[hj]
def DS.zero(n:Nat):DS:=⟨List.replicate n (List.replicate 64 0),[],false,0,false⟩
theorem secCells_zero:secCells (List.replicate 64 0)=List.replicate 64 (.int .u8 0):=by unfold secCells;rw[nums_ints,rep_cells]
theorem sureCells_zero(n:Nat):sureCells (List.replicate n (List.replicate 64 0))=List.replicate (n * 64) (.int .u8 0):=by
 unfold sureCells
 induction n with
 | zero=>rfl
 | succ n ih=>rw[List.replicate_succ,List.flatMap_cons,ih,secCells_zero,List.replicate_append_replicate];congr 1;omega
theorem make_sectors(n:Nat)(hn:n≤4096)(w:World) :
  (Instr.makeSlice 119 (.int .i64 (n:Int)) (.int .i64 (n:Int))).run Tryz.prog w = .ok (.slice (some ⟨w.heap.size,0,none⟩) n n) (w.alloc (.cells (sureCells (DS.zero n).sure).toArray 180)):=by
 obtain⟨i0,hi,hz0,hz1,hz2⟩:=info_parts info_sec
 have h:=run_make (P:=Tryz.prog) w 119 180 i0 _ Tryz.underlying119 hi hz0 .i64 .i64 (n:Int) (n:Int) (by omega) (by omega) (by rw[hz2];omega) (by omega)
 rw[h]
 have e:madeCells (Value.agg (List.replicate 64 (.int .u8 0)).toArray).cells ((n:Int).toNat * i0.size)=(sureCells (DS.zero n).sure).toArray:=by
  rw[hz1]
  show _=(sureCells (List.replicate n (List.replicate 64 0))).toArray
  rw[sureCells_zero]
  exact(madeCells_rep (Value.int .u8 0) 64 ((n:Int).toNat * 64) (by decide)).trans (by rw[Int.toNat_natCast])
 rw[e];simp
def NewAt(n:Nat)(w:World)(e:Ending)(w':World):Prop:=∃ b sb cap,e = .returned (.tuple #[.pointer (some ⟨b,0,none⟩),.int .i64 0])∧w.heap.size≤b∧w.heap.size≤sb∧DrumAt w' b sb cap (.slice none 0 0) (DS.zero n)∧NewMem w w'
set_option maxRecDepth 100000 in
set_option maxHeartbeats 8000000 in
theorem new_ok(n:Nat)(h0:0 < n)(hn:n≤4096)(w:World) :
  Calls Tryz.prog 25 #[.int .i64 (n:Int)] w fun e w'=>NewAt n w e w':=by
 have hmk:=make_sectors n hn w
 have hlt:¬ (n:Int) < 1:=by omega
 have hgt:¬ (n:Int) > 4096:=by omega
 have h0':0 < n:=h0
 have hl:(DS.zero n).sure.length=n:=by simp[DS.zero]
 have hsl:(sureCells (DS.zero n).sure).length=n * 64:=by show(sureCells (List.replicate n (List.replicate 64 0))).length=_;rw[sureCells_zero,List.length_replicate]
 have HL:=Lib.hid hl
 have HSL:=Lib.hid hsl
 clear hl hsl
 generalize hD:DS.zero n=D at *
 have HD:=Lib.hid hD
 clear hD
 go_enter Tryz.func25,Tryz.ntmps25
 go_wp2
 go_ret2
 have hl:=HL.out
 have hn1:NewMem w ((w.alloc (.cells (sureCells D.sure).toArray 180)).alloc (.cells #[.slice (some ⟨w.heap.size,0,none⟩) n n,.slice none 0 0,.bool false,.int .i64 0,.bool false] 122)):=(NewMem.alloc _ _).trans (NewMem.alloc _ _)
 refine⟨w.heap.size+1,w.heap.size,n,rfl,by omega,Nat.le_refl _,?_,hn1⟩
 have hs0:(w.alloc (.cells (sureCells D.sure).toArray 180)).ownsRow 0 180 64 (.slice (some ⟨w.heap.size,0,none⟩) n n) n (sureCells D.sure):=World.ownsRow_lit w (sureCells D.sure).toArray n (Nat.zero_le _) (by unfold maxLen;omega) (by simpa using HSL.out)
 rw[HD.out]
 refine⟨?_,?_,?_,by omega,by simp[Value.ownBlock],by simp[Value.ownBlock],by omega,by omega,?_,?_⟩
 ·rw[hl,← HD.out];exact heap_alloc2_new w _ _
 ·rw[hl];exact hs0.alloc _
 ·rw[← HD.out];exact World.ownsRow_nil _ _ _ _
 ·rw[← HD.out];intro s hs;have:=List.eq_of_mem_replicate hs;rw[this,List.length_replicate]
 ·rw[← HD.out];intro p hp;cases hp
end Go.Proofs.YtlmabbigfdbmbaaGreatDoor.Drum
namespace Go.Proofs.YtlmabbigfdbmbaaGreatDoor.Ord
section
variable{P:Program}
theorem exec_append{o:Oper}{ρ:Operand→Value}{w w':World}{v:Value}(s x:Operand)(t:TypeId)(ho:o.op = .call { callee:=.builtin .append,args:=#[s,x],argTypes:=#[t,t] })
  (hr:(Builtin.append_ #[t,t] o.type #[ρ s,ρ x]).run P w = .ok v w'):(execOp ρ o).run P w = .ok (.value v) w':=by
 unfold execOp
 simp only[ho,resolve,invoke,builtin,Sem.run_bind,Sem.run_pure,Result.andThen_ok,List.map_toArray,List.map_cons,List.map_nil,hr]
theorem exec_buildSlice{o:Oper}{ρ:Operand→Value}{w w':World}{v:Value}(t:TypeId)(len:Nat)(parts:Array (Nat × Operand))(ho:o.op = .buildSlice t len parts)
  (hr:(Instr.buildSlice t len (parts.map fun(i,x)=>(i,ρ x))).run P w = .ok v w'):(execOp ρ o).run P w = .ok (.value v) w':=by
 unfold execOp
 simp only[ho,Sem.run_bind,Sem.run_pure,Result.andThen_ok,hr]
theorem run_lit(w:World)(t e:TypeId)(s len:Nat)(vs:List Value)(parts:Array (Nat × Value))(z:Value)(b:Nat)(hu:P.underlying t=some (.slice e))(hi:(P.info? e).map (fun i=>(i.zero,i.size,i.bytes))=some (some z,s,b))
  (hp:parts.toList=(vs.zipIdx 0).map fun x=>(x.2,x.1)) (hs:0 < s) (hn:0 < len) (hl:vs.length=len) (hsm:len * s≤2 ^ 24) (h1:∀ v∈vs,v.cells.size=s) :
  (Instr.buildSlice t len parts).run P w = .ok (.slice (some ⟨w.heap.size,0,none⟩) len len) (w.alloc (.cells (vs.flatMap fun v=>v.cells.toList).toArray e)):=by
 obtain⟨ie,hie,hz,hz1,_⟩:=info_parts hi
 refine run_buildSlice w t e len parts _ ie z hu hie hz (by rw[hz1];omega) (by rw[hz1];exact Nat.ne_of_gt (Nat.mul_pos hn hs)) ?_
 rw[hz1,hp]
 exact Great.fill_whole hs vs _ h1 (by simp[hl])
theorem exec_load_mid{o:Oper}{ρ:Operand→Value}{w:World}(ty:TypeId)(x:Operand)(ho:o.op = .load ty x)(b off:Nat)(hx:ρ x = .pointer (some ⟨b,off,none⟩))(cs:List Value)(d:TypeDesc)(hc:w.rangeAt b off cs)
  (hu:P.underlying ty=some d) (hd:d.isRow=true) (hi:(P.info? ty).map (·.size)=some cs.length):(execOp ρ o).run P w = .ok (.value (.agg cs.toArray)) w:=by
 unfold execOp
 simp only[ho,hx,Instr.loadAt,Instr.sureAddr,Sem.run_bind,Sem.run_pure,Result.andThen_ok,run_loadVar_mid w b off ty cs d hc hu hd hi]
theorem exec_store_mid{o:Oper}{ρ:Operand→Value}{w:World}(ty:TypeId)(x y:Operand)(ho:o.op = .store ty x y)(b off:Nat)(cells:Array Value)(hx:ρ x = .pointer (some ⟨b,off,none⟩))(hy:ρ y = .agg cells)
  (ht:w.there b off cells.size) (hi:(P.info? ty).map (·.size)=some cells.size) (h1:cells.all (·.oneCell')=true):(execOp ρ o).run P w = .ok .skip (w.setCells b off cells.toList):=by
 unfold execOp
 simp only[ho,hx,hy,Instr.storeAt,Instr.sureAddr,Sem.run_bind,Sem.run_pure,Result.andThen_ok,run_storeVar_mid w b off ty cells ht hi h1]
theorem setCells_heap(t:TypeId)(fr:Nat × Nat):∀ (vs:List Value) (b o:Nat) (w:World) (cs:List Value),w.heap[b]? = some (.cells cs.toArray t fr)→o+vs.length≤cs.length→
  (w.setCells b o vs).heap[b]? = some (.cells (cs.take o++vs++cs.drop (o+vs.length)).toArray t fr)
 | [],b,o,w,cs,h,hl=>by simpa [World.setCells] using h
 | v :: vs,b,o,w,cs,h,hl=>by
  simp only[List.length_cons]at hl
  have h1:(w.setCell ⟨b,o,none⟩ v).heap[b]? = some (.cells (cs.set o v).toArray t fr):=by
   simp[World.setCell,Array.getElem?_modify,h]
  have:=setCells_heap t fr vs b (o+1) _ (cs.set o v) h1 (by simp;omega)
  unfold World.setCells
  rw[this]
  congr 3
  have e1:(cs.set o v).take (o+1)=cs.take o ++ [v]:=by
   rw[List.take_succ_eq_append_getElem (by simp;omega),List.take_set,List.set_eq_of_length_le (by simp;omega)]
   simp
  have e2:(cs.set o v).drop (o+1+vs.length)=cs.drop (o+(vs.length+1)):=by
   rw[List.drop_set,if_pos (by omega)];congr 1;omega
  rw[e1,e2]
  simp
theorem setCells_size:∀ (vs:List Value) (b o:Nat) (w:World),(w.setCells b o vs).heap.size=w.heap.size
 | [],_,_,_=>rfl
 | v :: vs,b,o,w=>by unfold World.setCells;rw[setCells_size vs];simp[World.setCell]
theorem setCells_other:∀ (vs:List Value) (b o:Nat) (w:World) (k:Nat),k≠b→(w.setCells b o vs).heap[k]? = w.heap[k]?
 | [],_,_,_,_,_=>rfl
 | v :: vs,b,o,w,k,h=>by unfold World.setCells;rw[setCells_other vs _ _ _ k h];simp[World.setCell,Array.getElem?_modify,Ne.symm h]
theorem setCells_os:∀ (vs:List Value) (b o:Nat) (w:World),(w.setCells b o vs).os=w.os∧(w.setCells b o vs).tape=w.tape∧(w.setCells b o vs).output=w.output
 | [],_,_,_=>⟨rfl,rfl,rfl⟩
 | v :: vs,b,o,w=>by unfold World.setCells;exact setCells_os vs _ _ _
theorem range_of_block{w:World}{b off:Nat}{cs all:List Value}{t:TypeId}{fr:Nat × Nat}(h:w.heap[b]? = some (.cells all.toArray t fr))(hc:(all.drop off).take cs.length=cs):w.rangeAt b off cs:=fun j v hv=>by
 have hj:j < cs.length:=(List.getElem?_eq_some_iff.1 hv).1
 rw[cell_of_row w b (off+j) _ t fr h]
 rw[← hc,List.getElem?_take,if_pos hj,List.getElem?_drop]at hv
 simpa using hv
theorem there_of_block{w:World}{b off n:Nat}{all:List Value}{t:TypeId}(h:w.heap[b]? = some (.cells all.toArray t (0,0)))(hn:off+n≤all.length):w.there b off n:=fun j hj=>by
 refine⟨?_,frozen_of_row w b _ _ t h⟩
 rw[cell_of_row w b (off+j) _ t _ h]
 simp;omega
end
end Go.Proofs.YtlmabbigfdbmbaaGreatDoor.Ord
namespace Go.Proofs.YtlmabbigfdbmbaaGreatDoor.Drum
open Go.RowKit Go.Proofs.YtlmabbigfdbmbaaGreatDoor.Ord Go.Proofs.YtlmabbigfdbmbaaGreatDoorW.PrintWords Go.Proofs.YtlmabbigfdbmbaaGreatDoor.Base
attribute [local go_sem] rdl_const rdl_func rdl_global rdl_nil rdl_cons
def DS.burn(D:DS):Int × DS:=((burns D.armed D.left D.down).1,{ D with left:=(burns D.armed D.left D.down).2.1,down:=(burns D.armed D.left D.down).2.2 })
def DS.write(D:DS)(i:Int)(s:List UInt8):Int × DS:=
 if i < 0∨(D.sure.length:Int)≤i∨s.length≠64 then (2,D)
 else if D.burn.1=0 then (0,{ D.burn.2 with loose:=D.loose ++ [(i.toNat,s)] })else D.burn
theorem DrumAt.burnt{w w':World}{b sb cap:Nat}{lv:Value}{D:DS}(h:DrumAt w b sb cap lv D)(hc:DCell w' b (.slice (some ⟨sb,0,none⟩) D.sure.length cap) lv D.armed (burns D.armed D.left D.down).2.1 (burns D.armed D.left D.down).2.2)
  (hm:Mod (fun k=>k=b) w w'):DrumAt w' b sb cap lv D.burn.2:=
 ⟨hc,ownsRow_mod h.sure hm (fun k hk e=>h.ne (by subst e;simpa [Value.ownBlock] using hk.symm)),ownsRow_mod h.loose hm (fun k hk e=>h.nel (by rw[hk,e])),h.ne,h.nel,h.nes,h.pos,h.few,h.wsure,h.wloose⟩
def Did(w:World)(b sb cap:Nat)(lv:Value)(r:Int × DS)(e:Ending)(w':World):Prop:=
 ∃ lv',e = .returned (.int .i64 r.1)∧DrumAt w' b sb cap lv' r.2∧(∀ k,lv'.ownBlock=some k→lv.ownBlock=some k∨w.heap.size≤k)∧Mod (foot b sb lv) w w'
theorem Did.same{w:World}{b sb cap:Nat}{lv:Value}{D:DS}(h:DrumAt w b sb cap lv D)(r:Int):Did w b sb cap lv (r,D) (.returned (.int .i64 r)) w:=
 ⟨lv,rfl,h,fun _ h=> .inl h,Mod.refl _ _⟩
theorem zero_loose:Tryz.zeroCells182=(List.replicate 64 (Value.int .u8 0) ++ [Value.int .i64 0]).toArray:=by kernel_rfl
theorem store_loose(w:World)(i:Int):(storeCells ⟨w.heap.size,0,none⟩ (Tryz.zeroCells182.toList.set 64 (.int .i64 i))).run Tryz.prog (w.alloc (.cells Tryz.zeroCells182 182)) =
  .ok () (w.alloc (.cells (List.replicate 64 (Value.int .u8 0) ++ [Value.int .i64 i]).toArray 182)):=by
 have e:Tryz.zeroCells182.toList.set 64 (.int .i64 i)=List.replicate 64 (Value.int .u8 0) ++ [Value.int .i64 i]:=by rw[zero_loose];rfl
 have hz:Tryz.zeroCells182.size=65:=by rw[zero_loose];rfl
 have hl:(List.replicate 64 (Value.int .u8 0) ++ [Value.int .i64 i]).length=65:=by rw[List.length_append,List.length_replicate];rfl
 rw[e]
 have h:=run_storeCells_at Tryz.prog w.heap.size 0 182 (List.replicate 64 (Value.int .u8 0) ++ [Value.int .i64 i]) 0 _ (w.alloc (.cells Tryz.zeroCells182 182)) (heap_alloc_last w _) (by rw[hl,hz];decide) (by
  intro v hv
  rw[List.mem_append]at hv
  rcases hv with hv | hv
  ·rw[List.eq_of_mem_replicate hv];rfl
  ·rw[List.mem_singleton.1 hv];rfl)
 rw[hl]at h
 refine h.trans ?_
 rw[World.setRow_alloc_new]
 congr 4
theorem copy_loose(w:World)(i:Int)(s:ByteArray)(h64:s.size=64) :
  (Builtin.copy_ #[129,9] 3 #[.slice (some ⟨w.heap.size,0,none⟩) 64 64,.string s]).run Tryz.prog (w.alloc (.cells (List.replicate 64 (Value.int .u8 0) ++ [Value.int .i64 i]).toArray 182)) =
   .ok (goInt 64) (w.alloc (.cells (secCells s.data.toList ++ [Value.int .i64 i]).toArray 182)):=by
 rw[run_copy_text _ 129 9 3 5 w.heap.size 64 64 s _ 182 Tryz.underlying129 info_u8 (heap_alloc_last w _) (by rw[List.size_toArray,List.length_append,List.length_replicate];exact Nat.le_add_right _ _)]
 rw[World.setRow_alloc_new,h64]
 congr 4
 unfold secCells
 rw[nums_ints,List.take_of_length_le (by simp[h64]),show min 64 64=64 from rfl,List.drop_left' (by rw[List.length_replicate])]
theorem loose_made(w:World)(i:Int)(s:ByteArray)(h64:s.size=64):∃ w2 w3,(storeCells ⟨w.heap.size,0,none⟩ (Tryz.zeroCells182.toList.set 64 (.int .i64 i))).run Tryz.prog (w.alloc (.cells Tryz.zeroCells182 182)) = .ok () w2∧
  (Builtin.copy_ #[129,9] 3 #[.slice (some ⟨w.heap.size,0,none⟩) 64 64,.string s]).run Tryz.prog w2 = .ok (goInt 64) w3∧w3=w.alloc (.cells (secCells s.data.toList ++ [Value.int .i64 i]).toArray 182):=
 ⟨_,_,store_loose w i,copy_loose w i s h64,rfl⟩
def newsF(lv:Value)(xs:List Value):Fact (Mod (fun k=>lv.ownBlock=some k)):=
  ⟨fun v W=>∃ x,v = .slice (some ⟨x,0,none⟩) 1 1∧W.heap[x]? = some (.cells xs.toArray 182 (0,0))∧lv.ownBlock≠some x,
   fun v W W' ⟨x,hv,hx,hn⟩ hm=>⟨x,hv,(hm.block x (Array.getElem?_eq_some_iff.1 hx).1 hn).trans hx,hn⟩⟩
def Appended(w3:World)(lv:Value)(D:DS)(p:Nat × List UInt8)(v:Value)(W:World):Prop:=
 ∃ h cap,v = .slice (some ⟨h,0,none⟩) (D.loose.length+1) cap∧W.ownsRow 0 182 65 v (D.loose.length+1) (looseCells (D.loose ++ [p]))∧(lv.ownBlock=some h∨w3.heap.size≤h)
theorem looseCells_snoc(l:List (Nat × List UInt8))(p:Nat × List UInt8):looseCells (l ++ [p])=looseCells l++(secCells p.2 ++ [.int .i64 (p.1:Int)]):=by simp[looseCells]
theorem info_loose:(Tryz.prog.info? 182).map (fun i=>(i.zero,i.size,i.bytes))=some (some (.agg Tryz.zeroCells182),65,72):=by kernel_rfl
theorem loose_one(s:List UInt8)(i:Int):∀ u∈secCells s ++ [Value.int .i64 i],u.oneCell'=true:=by
 intro u hu
 rw[List.mem_append]at hu
 rcases hu with hu | hu
 ·unfold secCells at hu;rw[nums_ints]at hu;exact Lib.byteCells_one _ u hu
 ·rw[List.mem_singleton.1 hu];rfl
theorem append_loose{lv:Value}{D:DS}{s:List UInt8}{i:Int}{w3 W:World}{v6:Value}(hs:s.length=64)(hi:0≤i)(hn:D.loose.length≤1000000)
  (hS:Mod (fun k=>lv.ownBlock=some k) w3 W) (hA:W.ownsRow 0 182 65 lv D.loose.length (looseCells D.loose)) (h6:(newsF lv (secCells s ++ [Value.int .i64 i])).p v6 W) (ty:TypeId) :
  ∃ v W',(Builtin.append_ #[120,120] ty #[lv,v6]).run Tryz.prog W = .ok v W'∧Mod (fun k=>lv.ownBlock=some k) W W'∧Appended w3 lv D (i.toNat,s) v W':=by
 obtain⟨x,rfl,hx,hne⟩:=h6
 obtain⟨i0,hi0,hz0,hz1,hz2⟩:=info_parts info_loose
 have hzs:Tryz.zeroCells182.size=65:=by rw[zero_loose];rfl
 obtain⟨h,cap,W',hr,hown,hg,hat,_⟩:=run_append_lies (P:=Tryz.prog) W 120 ty 0 182 i0 _ 65 72 Tryz.underlying120 hi0 hz0 hz1 hz2 hzs (by decide) lv D.loose.length _ hA ⟨x,0,none⟩ 1 1 (secCells s ++ [Value.int .i64 i])
  (by simp[secCells_len,hs]) (World.news_of_block (by simpa using hx)) (loose_one s i) (by decide) (by unfold maxLen;omega) (by omega) (Nat.zero_le _) W.heap.size rfl
 refine⟨_,W',hr,Mod.of_grown hg (fun k hk=>hk),h,cap,rfl,?_,?_⟩
 ·rw[looseCells_snoc]
  have:((i.toNat:Nat):Int)=i:=by omega
  simp only[this];exact hown
 ·rcases hat with hat | hat
  ·exact .inl hat
  ·exact .inr (by rw[hat];exact hS.size)
theorem lit_loose(s:List UInt8)(hs:s.length=64)(i:Int)(W:World)(parts:Array (Nat × Value))(hp:parts.toList = [(0,.agg (secCells s ++ [Value.int .i64 i]).toArray)]) :
  (Instr.buildSlice 120 1 parts).run Tryz.prog W = .ok (.slice (some ⟨W.heap.size,0,none⟩) 1 1) (W.alloc (.cells (secCells s ++ [Value.int .i64 i]).toArray 182)):=by
 have h:=run_lit (P:=Tryz.prog) W 120 182 65 1 [.agg (secCells s ++ [Value.int .i64 i]).toArray] parts _ 72 Tryz.underlying120 info_loose (by rw[hp];rfl) (by decide) (by decide) rfl (by decide)
  (fun v hv=>by rw[List.mem_singleton.1 hv];simp[Value.cells,secCells_len,hs])
 simpa [Value.cells] using h
theorem DrumAt.written{w w1 w3 W:World}{b sb cap:Nat}{lv v:Value}{D:DS}{p:Nat × List UInt8}(h:DrumAt w b sb cap lv D)
  (hc1:DCell w1 b (.slice (some ⟨sb,0,none⟩) D.sure.length cap) lv D.armed (burns D.armed D.left D.down).2.1 (burns D.armed D.left D.down).2.2)
  (hm1:Mod (fun k=>k=b) w w1) (hn3:NewMem w1 w3) (hS:Mod (fun k=>lv.ownBlock=some k) w3 W) (ha:Appended w3 lv D p v W) (hp:p.2.length=64∧p.1 < D.sure.length) :
  Did w b sb cap lv (0,{ D.burn.2 with loose:=D.loose ++ [p] }) (.returned (.int .i64 0)) (W.setCell ⟨b,1,none⟩ v):=by
 obtain⟨x,cp,rfl,hown,hat⟩:=ha
 have hm3:Mod (fun k=>k=b) w1 w3:=Mod.of_below hn3
 have hb1:b < w1.heap.size:=hc1.lt
 have hb3:b < w3.heap.size:=Nat.lt_of_lt_of_le hb1 hn3.size
 have hbx:b≠x:=by
  rcases hat with e | e
  ·intro hx;exact h.nel (by rw[e,hx])
  ·omega
 have hsx:sb≠x:=by
  rcases hat with e | e
  ·intro hx;exact h.nes (by rw[e,hx])
  ·have:=(h.sure.lt sb rfl).2;have:=hm1.size;have:=hn3.size;omega
 have hcW:DCell W b (.slice (some ⟨sb,0,none⟩) D.sure.length cap) lv D.armed (burns D.armed D.left D.down).2.1 (burns D.armed D.left D.down).2.2:=
  (hc1.kept (Mod.of_below (F:=fun _=>False) hn3) id).kept hS h.nel
 have hall:Mod (foot b sb lv) w (W.setCell ⟨b,1,none⟩ (.slice (some ⟨x,0,none⟩) (D.loose.length+1) cp)):=by
  have h1:Mod (foot b sb lv) w w1:=hm1.mono (fun i e=> .inl e)
  have h2:Mod (foot b sb lv) w w3:=h1.trans (Mod.of_below hn3:Mod (foot b sb lv) w1 w3) (fun i e=> .inl e)
  have h3:Mod (foot b sb lv) w W:=h2.trans hS (fun i e=> .inl (.inr (.inr e)))
  exact h3.trans (Mod.setCell (F:=fun k=>k=b) _ _ _ rfl) (fun i e=> .inl (.inl e))
 refine⟨.slice (some ⟨x,0,none⟩) (D.loose.length+1) cp,rfl,⟨hcW.set1 _,?_,?_,h.ne,?_,?_,h.pos,h.few,h.wsure,?_⟩,?_,hall⟩
 ·have s1:=ownsRow_mod h.sure hm1 (fun k hk e=>h.ne (by subst e;simpa [Value.ownBlock] using hk.symm))
  have s3:=ownsRow_mod s1 (Mod.of_below (F:=fun _=>False) hn3) (fun _ _=>id)
  have s4:=ownsRow_mod s3 hS (fun k hk e=>h.nes (by rw[e];exact hk.symm))
  exact ownsRow_mod s4 (Mod.setCell (F:=fun k=>k=b) _ ⟨b,1,none⟩ _ rfl) (fun k hk e=>h.ne (by subst e;simpa [Value.ownBlock] using hk.symm))
 ·have:=ownsRow_mod hown (Mod.setCell (F:=fun k=>k=b) W ⟨b,1,none⟩ (.slice (some ⟨x,0,none⟩) (D.loose.length+1) cp) rfl) (fun k hk e=>hbx (by subst e;simpa [Value.ownBlock] using hk.symm))
  simpa using this
 ·simpa [Value.ownBlock] using fun e:x=b=>hbx e.symm
 ·simpa [Value.ownBlock] using fun e:x=sb=>hsx e.symm
 ·intro q hq
  rcases List.mem_append.1 hq with hq | hq
  ·exact h.wloose q hq
  ·rw[List.mem_singleton.1 hq];exact hp
 ·intro k hk
  simp only[Value.ownBlock,Option.some.injEq]at hk
  subst hk
  rcases hat with e | e
  ·exact .inl e
  ·have:=hm1.size;have:=hn3.size;exact .inr (by omega)
set_option maxRecDepth 100000 in
set_option maxHeartbeats 8000000 in
theorem write_at(b sb cap:Nat)(lv:Value)(D:DS)(i:Int)(s:ByteArray)(w:World)(h:DrumAt w b sb cap lv D)(hs:s.size≤1000000)(hn:D.loose.length≤1000000) :
  Calls Tryz.prog 128 #[.pointer (some ⟨b,0,none⟩),.int .i64 i,.string s] w fun e w'=>Did w b sb cap lv (D.write i s.data.toList) e w':=by
 have c0:=h.cell.cells.1
 have cm:Calls Tryz.prog 66 #[.pointer (some ⟨b,0,none⟩)] w fun e w'=>e = .returned (.bool true)∧w=w':=by
  have:=made_of b _ _ _ w c0
  rwa [decide_eq_true h.pos]at this
 have CM:=Lib.hid cm
 have ch:=has_of b _ _ _ i w c0
 have H:=Lib.hid h
 by_cases hr:0≤i∧i < (D.sure.length:Int)
 ·rw[decide_eq_true hr]at ch
  have CH:=Lib.hid ch
  by_cases h64:s.size=64
  ·have hsl:s.data.toList.length=64:=by simpa using h64
   have hw:D.write i s.data.toList=if D.burn.1=0 then (0,{ D.burn.2 with loose:=D.loose ++ [(i.toNat,s.data.toList)] })else D.burn:=by
    unfold DS.write;rw[if_neg (by rintro(x | x | x)<;>omega)]
   rw[hw]
   have h64i:(s.size:Int)=64:=by omega
   have CB:=Lib.hid (burn_at b _ _ _ _ _ w h.cell)
   clear hw h ch cm c0
   by_cases hb0:D.burn.1=0
   ·rw[if_pos hb0]
    have hb0':(burns D.armed D.left D.down).1=0:=hb0
    go_enter Tryz.func128,Tryz.ntmps128
    go_wp2_with fail
    refine CM.out.mono ?_
    rintro e w' ⟨rfl,rfl⟩
    go_wp2_with fail
    refine CH.out.mono ?_
    rintro e w' ⟨rfl,rfl⟩
    go_wp2_with fail
    refine CB.out.mono ?_
    rintro e w1 ⟨rfl,hc1,hm1⟩
    rw[hb0']
    obtain⟨w2,w3,hst,hcp,hw3⟩:=loose_made w1 i s h64
    have HW3:=Lib.hid hw3
    clear hw3
    go_wp2_with fail
    obtain⟨gl,hg⟩:∃ g:Nat,g=w1.heap.size:=⟨_,rfl⟩
    rw[← hg]
    have hg3:w3.heap[gl]? = some (.cells (secCells s.data.toList ++ [Value.int .i64 i]).toArray 182 (0,0)):=by rw[HW3.out,hg];exact heap_alloc_last _ _
    have hn3:NewMem w1 w3:=by rw[HW3.out];exact NewMem.alloc _ _
    clear hst hcp HW3
    have hbn:b < w1.heap.size:=hc1.lt
    have hb3:∀ W,Mod (fun k=>lv.ownBlock=some k) w3 W→DCell W b (.slice (some ⟨sb,0,none⟩) D.sure.length cap) lv D.armed (burns D.armed D.left D.down).2.1 (burns D.armed D.left D.down).2.2:=fun W hW=>
     (hc1.kept (Mod.of_below (F:=fun _=>False) hn3) id).kept hW H.out.nel
    have hlt:∀ k,lv.ownBlock=some k→k < w1.heap.size:=fun k hk=>Nat.lt_of_lt_of_le ((H.out.loose.lt k hk).2) hm1.size
    have hgW:∀ W,Mod (fun k=>lv.ownBlock=some k) w3 W→W.heap[gl]? = some (.cells (secCells s.data.toList ++ [Value.int .i64 i]).toArray 182 (0,0)):=fun W hW=>
     (hW.block gl ((Array.getElem?_eq_some_iff.1 hg3).1) (fun e=>by have:=hlt gl e;omega)).trans hg3
    have hA3:w3.ownsRow 0 182 65 lv D.loose.length (looseCells D.loose):=
     ownsRow_mod (ownsRow_mod H.out.loose hm1 (fun k hk e=>H.out.nel (by rw[hk,e]))) (Mod.of_below (F:=fun _=>False) hn3) (fun _ _=>id)
    have hcs:(secCells s.data.toList ++ [Value.int .i64 i]).length=65:=by simp[secCells_len,hsl]
    have HB3:=Lib.hid hb3
    have HLT:=Lib.hid hlt
    have HGW:=Lib.hid hgW
    have HA3:=Lib.hid hA3
    have HCS:=Lib.hid hcs
    have HC1:=Lib.hid hc1
    have HM1:=Lib.hid hm1
    have HN3:=Lib.hid hn3
    have HG3:=Lib.hid hg3
    clear hb3 hlt hgW hA3 hcs hc1 hm1 hn3 hg3
    refine' wp_region_factsD 7 (S:=(fun W=>Mod (fun k=>lv.ownBlock=some k) w3 W)) (A:=(fun W=>W.ownsRow 0 182 65 lv D.loose.length (looseCells D.loose))) (R:=(Mod (fun k=>lv.ownBlock=some k))) (R0:=NewMem) (pd:=(Appended w3 lv D (i.toNat,s.data.toList))) [eqF _ _,eqF _ _,eqF _ _,eqF _ _,eqF _ lv,eqF _ (.agg (secCells s.data.toList ++ [Value.int .i64 i]).toArray),newsF lv (secCells s.data.toList ++ [Value.int .i64 i]),noF _] (by kernel_rfl) (by kernel_rfl) ?hS ?hA ?hR ?hpd ?h0 (Ord.stepsD_cons ?s0 (Ord.stepsD_cons ?s1 (Ord.stepsD_cons ?s2 (Ord.stepsD_cons ?s3 (Ord.stepsD_cons ?s4 (Ord.stepsD_cons ?s5 (Ord.stepsD_cons ?s6 (Ord.stepsD_cons ?s7 (Ord.stepsD_nil))))))))) ?fin
    case s0=>
     intro g W hSW _ hd
     refine OpGives.ne (by decide) ?_
     try simp only[Nat.zero_add,Nat.reduceAdd]at hd ⊢
     with_reducible refine OpGives.pre_reads [] 44 ?_ ?_ ?_
     ·rfl
     ·kernel_rfl
     simp only[List.map_cons,List.map_nil]
     refine OpGives.val (w':=W) ?_ ⟨NewMem.refl _,rfl⟩
     go_simp
     try with_reducible rfl
    case s1=>
     intro g W hSW _ hd
     refine OpGives.ne (by decide) ?_
     try simp only[Nat.zero_add,Nat.reduceAdd]at hd ⊢
     with_reducible refine OpGives.pre_reads [] 44 ?_ ?_ ?_
     ·rfl
     ·kernel_rfl
     simp only[List.map_cons,List.map_nil]
     refine OpGives.val (w':=W) ?_ ⟨NewMem.refl _,rfl⟩
     go_simp
     try with_reducible rfl
    case s2=>
     intro g W hSW _ hd
     refine OpGives.ne (by decide) ?_
     try simp only[Nat.zero_add,Nat.reduceAdd]at hd ⊢
     have h1:g 1=_:=hd 1 (by decide) (by kernel_rfl)
     with_reducible refine OpGives.pre_reads [(35,1)] 44 ?_ ?_ ?_
     ·rfl
     ·kernel_rfl
     simp only[List.map_cons,List.map_nil]
     refine OpGives.val (w':=W) ?_ ⟨NewMem.refl _,rfl⟩
     go_simp
     try with_reducible rfl
    case s3=>
     intro g W hSW _ hd
     refine OpGives.ne (by decide) ?_
     try simp only[Nat.zero_add,Nat.reduceAdd]at hd ⊢
     have h2:g 2=_:=hd 2 (by decide) (by kernel_rfl)
     with_reducible refine OpGives.pre_reads [(36,2)] 44 ?_ ?_ ?_
     ·rfl
     ·kernel_rfl
     simp only[List.map_cons,List.map_nil]
     refine OpGives.val (w':=W) ?_ ⟨NewMem.refl _,rfl⟩
     go_simp
     try with_reducible rfl
    case s4=>
     intro g W hSW _ hd
     refine OpGives.ne (by decide) ?_
     try simp only[Nat.zero_add,Nat.reduceAdd]at hd ⊢
     have h3:g 3=_:=hd 3 (by decide) (by kernel_rfl)
     with_reducible refine OpGives.pre_reads [(37,3)] 44 ?_ ?_ ?_
     ·rfl
     ·kernel_rfl
     simp only[List.map_cons,List.map_nil]
     have c1:=(HB3.out W hSW).cells.2.1;refine OpGives.val (w':=W) ?_ ⟨NewMem.refl _,rfl⟩;go_simp
    case s5=>
     intro g W hSW _ hd
     refine OpGives.ne (by decide) ?_
     try simp only[Nat.zero_add,Nat.reduceAdd]at hd ⊢
     with_reducible refine OpGives.pre_reads [] 44 ?_ ?_ ?_
     ·rfl
     ·kernel_rfl
     simp only[List.map_cons,List.map_nil]
     refine OpGives.val (w':=W) (exec_load_row 182 _ rfl gl ?_ _ _ (0,0) _ (HGW.out W hSW) Tryz.underlying182 rfl ?_) ⟨NewMem.refl _,rfl⟩;(rfl);(rw[List.size_toArray,HCS.out];kernel_rfl)
    case s6=>
     intro g W hSW _ hd
     refine OpGives.ne (by decide) ?_
     try simp only[Nat.zero_add,Nat.reduceAdd]at hd ⊢
     have h5:g 5=_:=hd 5 (by decide) (by kernel_rfl)
     with_reducible refine OpGives.pre_reads [(39,5)] 44 ?_ ?_ ?_
     ·rfl
     ·kernel_rfl
     simp only[List.map_cons,List.map_nil]
     refine OpGives.val (v:=.slice (some ⟨W.heap.size,0,none⟩) 1 1) (w':=W.alloc (.cells (secCells s.data.toList ++ [Value.int .i64 i]).toArray 182)) (exec_buildSlice 120 1 _ rfl (lit_loose _ hsl i W _ ?_)) ⟨NewMem.alloc _ _,W.heap.size,rfl,heap_alloc_last W _,fun e=>absurd (HLT.out _ e) (by have:=hSW.size;have:=HN3.out.size;omega)⟩;rw[h5];simp[rdl_cons]
    case s7=>
     intro g W hSW hAW hd
     refine OpGives.eqd ?_
     have hAW:=hAW rfl
     try simp only[Nat.zero_add,Nat.reduceAdd]at hd ⊢
     have h4:g 4=_:=hd 4 (by decide) (by kernel_rfl)
     have h6:=hd 6 (by decide) (by kernel_rfl)
     change (newsF lv (secCells s.data.toList ++ [Value.int .i64 i])).p (g 6) W at h6
     with_reducible refine OpGives.pre_reads [(38,4),(40,6)] 44 ?_ ?_ ?_
     ·rfl
     ·kernel_rfl
     simp only[List.map_cons,List.map_nil]
     obtain⟨v,W',hr,hR,hp⟩:=append_loose hsl hr.1 hn hSW hAW h6 120;rw[← h4]at hr;exact OpGives.val (v:=v) (w':=W') (exec_append _ _ _ rfl hr) ⟨hR,trivial,hp⟩
    case hS=>exact fun a c h k=>Mod.trans h k (fun _ e=> .inl e)
    case hA=>exact fun a c h k=>ownsRow_mod h (Mod.of_below (F:=fun _=>False) k) (fun _ _=>id)
    case hR=>exact fun a c h=>Mod.of_below h
    case hpd=>exact fun v a c ⟨x,cp,e,ho,hx⟩ k=>⟨x,cp,e,ownsRow_mod ho (Mod.of_below (F:=fun _=>False) k) (fun _ _=>id),hx⟩
    case h0=>exact⟨Mod.drew (Mod.refl _ _),ownsRow_mod HA3.out (Mod.drew (Mod.refl (fun _=>False) _)) (fun _ _=>id)⟩
    case fin=>
     intro v W hSW hf hpd
     have h0:v 0=_:=hf 0 (Nat.lt_of_lt_of_eq (by decide:0 < 8) rfl)
     have h7:=hpd (Nat.lt_of_lt_of_eq (by decide:7 < 8) rfl)
     clear hf hpd
     generalize hF:Ord.pre _ _ v _=F
     rw[Ord.pre_lit [some 34,some 35,some 36,some 37,some 38,some 39,some 40,some 41]
      (by kernel_rfl)]at hF
     simp only[Ord.puts,Nat.zero_add,Nat.reduceAdd]at hF
     subst hF
     rw[h0]
     refine any_one (i:=8) (by kernel_rfl) (wpOp_value (v:=.pointer (some ⟨b,0,none⟩)) (w':=W) rfl rfl (by go_simp) ?_)
     refine any_one (i:=9) (by kernel_rfl) (wpOp_value (v:=.pointer (some ⟨b,1,none⟩)) (w':=W) rfl rfl (by go_simp) ?_)
     have hcW:=HB3.out W hSW
     have c1:=hcW.cells.2.1
     have f1:=hcW.free 1
     obtain⟨x7,c7,e7,h7'⟩:=h7
     have h7:Appended w3 lv D (i.toNat,s.data.toList) (v 7) W:=⟨x7,c7,e7,h7'⟩
     have hdone:=DrumAt.written H.out HC1.out HM1.out HN3.out hSW h7 ⟨hsl,by omega⟩
     have HD:=Lib.hid hdone
     rw[e7]at HD ⊢
     clear hdone hcW h7 h7' e7
     refine any_one (i:=10) (by kernel_rfl) (wpOp_skip (w':=W.setCell ⟨b,1,none⟩ (.slice (some ⟨x7,0,none⟩) (D.loose.length+1) c7)) rfl rfl (by go_simp) ?_)
     refine wpAny_done (by kernel_rfl) ?_ _
     simp only[List.getElem_toArray,List.getElem_cons_succ,List.getElem_cons_zero]
     go_frame
     go_wp2_with fail
     go_ret
     exact HD.out
   ·rw[if_neg hb0]
    have hb0':(burns D.armed D.left D.down).1≠0:=hb0
    have hbd:((burns D.armed D.left D.down).1 == 0)=false:=by simpa using hb0'
    go_enter Tryz.func128,Tryz.ntmps128
    go_wp2_with fail
    refine CM.out.mono ?_
    rintro e w' ⟨rfl,rfl⟩
    go_wp2_with fail
    refine CH.out.mono ?_
    rintro e w' ⟨rfl,rfl⟩
    go_wp2_with fail
    refine CB.out.mono ?_
    rintro e w1 ⟨rfl,hc1,hm1⟩
    have HD:=Lib.hid (show Did w b sb cap lv D.burn (.returned (.int .i64 (burns D.armed D.left D.down).1)) w1 from⟨lv,rfl,H.out.burnt hc1 hm1,fun _ h=> .inl h,hm1.mono (fun _ e=> .inl e)⟩)
    clear hc1 hm1
    go_wp2
    go_ret
    exact HD.out
  ·have hw:D.write i s.data.toList=(2,D):=by unfold DS.write;rw[if_pos (.inr (.inr (by simpa using h64)))]
   rw[hw]
   have h64i:(s.size:Int)≠64:=by omega
   clear hw h ch cm c0 hr
   go_enter Tryz.func128,Tryz.ntmps128
   go_wp2_with fail
   refine CM.out.mono ?_
   rintro e w' ⟨rfl,rfl⟩
   go_wp2_with fail
   refine CH.out.mono ?_
   rintro e w' ⟨rfl,rfl⟩
   go_wp2_with fail
   go_ret
   exact Did.same H.out 2
 ·rw[decide_eq_false hr]at ch
  have CH:=Lib.hid ch
  have hw:D.write i s.data.toList=(2,D):=by unfold DS.write;rw[if_pos (by omega)]
  rw[hw]
  clear hw h ch cm c0 hr
  go_enter Tryz.func128,Tryz.ntmps128
  go_wp2_with fail
  refine CM.out.mono ?_
  rintro e w' ⟨rfl,rfl⟩
  go_wp2_with fail
  refine CH.out.mono ?_
  rintro e w' ⟨rfl,rfl⟩
  go_wp2_with fail
  go_ret
  exact Did.same H.out 2
end Go.Proofs.YtlmabbigfdbmbaaGreatDoor.Drum
namespace Go.Proofs.YtlmabbigfdbmbaaGreatDoor.Drum
open Go.RowKit Go.Proofs.YtlmabbigfdbmbaaGreatDoor.Ord Go.Proofs.YtlmabbigfdbmbaaGreatDoorW.PrintWords Go.Proofs.YtlmabbigfdbmbaaGreatDoor.Base
attribute [local go_sem] rdl_const rdl_func rdl_global rdl_nil rdl_cons
def keepN(p:Nat→Bool)(l:List (Nat × List UInt8))(s:List (List UInt8)):Nat→List (List UInt8)
 | 0=>s
 | k+1=>match l[k]? with
  | some q=>if p k then (keepN p l s k).set q.1 q.2 else keepN p l s k
  | none=>keepN p l s k
theorem keepN_len(p:Nat→Bool)(l:List (Nat × List UInt8))(s:List (List UInt8)):∀ k,(keepN p l s k).length=s.length
 | 0=>rfl
 | k+1=>by
  unfold keepN
  split
  ·split
   ·rw[List.length_set,keepN_len p l s k]
   ·exact keepN_len p l s k
  ·exact keepN_len p l s k
theorem flat_at{α:Type}(f:α→List Value)(n:Nat):∀ (l:List α) (k:Nat) (x:α),(∀ y∈l,(f y).length=n)→l[k]? = some x→((l.flatMap f).drop (k * n)).take n=f x
 | [],k,x,_,h=>by simp at h
 | y :: l,0,x,hw,h=>by
  simp at h;subst h
  rw[List.flatMap_cons,Nat.zero_mul,List.drop_zero,List.take_append_of_le_length (by rw[hw y (by simp)];exact Nat.le_refl _),List.take_of_length_le (by rw[hw y (by simp)];exact Nat.le_refl _)]
 | y :: l,k+1,x,hw,h=>by
  have hy:=hw y (by simp)
  rw[List.flatMap_cons,List.drop_append,hy,List.drop_eq_nil_of_le (by rw[hy,Nat.add_mul];omega),List.nil_append,show(k+1) * n - n=k * n by rw[Nat.add_mul];omega]
  exact flat_at f n l k x (fun z hz=>hw z (by simp[hz])) (by simpa using h)
theorem flat_set{α:Type}(f:α→List Value)(n:Nat):∀ (l:List α) (k:Nat) (x:α),(∀ y∈l,(f y).length=n)→k < l.length→((l.set k x).flatMap f)=(l.flatMap f).take (k * n)++f x++(l.flatMap f).drop (k * n+n)
 | [],k,x,_,h=>by simp at h
 | y :: l,0,x,hw,h=>by
  have hy:=hw y (by simp)
  simp[← hy]
 | y :: l,k+1,x,hw,h=>by
  have hy:=hw y (by simp)
  have ih:=flat_set f n l k x (fun z hz=>hw z (by simp[hz])) (by simpa using h)
  have e:(k+1) * n=(f y).length+k * n:=by rw[Nat.add_mul,hy];omega
  have e2:(k+1) * n+n=(f y).length+(k * n+n):=by rw[e];omega
  rw[List.set_cons_succ,List.flatMap_cons,List.flatMap_cons,ih,e2,e,List.take_length_add_append,List.drop_length_add_append]
  simp
theorem flat_len{α:Type}(f:α→List Value)(n:Nat):∀ (l:List α),(∀ y∈l,(f y).length=n)→(l.flatMap f).length=l.length * n
 | [],_=>by simp
 | y :: l,hw=>by
  rw[List.flatMap_cons,List.length_append,hw y (by simp),flat_len f n l (fun z hz=>hw z (by simp[hz])),List.length_cons,Nat.add_mul];omega
def looseCell(p:Nat × List UInt8):List Value:=secCells p.2 ++ [.int .i64 (p.1:Int)]
theorem looseCell_len(q:Nat × List UInt8)(h:q.2.length=64):(looseCell q).length=65:=by simp[looseCell,secCells_len,h]
def DS.kept(D:DS)(p:Nat→Bool)(k:Nat):DS:={ D with sure:=keepN p D.loose D.sure k }
theorem DS.kept_no{D:DS}{p:Nat→Bool}{k:Nat}{q:Nat × List UInt8}(hq:D.loose[k]? = some q)(hp:p k=false):D.kept p (k+1)=D.kept p k:=by
 have:keepN p D.loose D.sure (k+1)=keepN p D.loose D.sure k:=by rw[keepN,hq];simp[hp]
 unfold DS.kept;rw[this]
theorem DS.kept_yes{D:DS}{p:Nat→Bool}{k:Nat}{q:Nat × List UInt8}(hq:D.loose[k]? = some q)(hp:p k=true):D.kept p (k+1) = { (D.kept p k)with sure:=(D.kept p k).sure.set q.1 q.2 } :=by
 have:keepN p D.loose D.sure (k+1)=(keepN p D.loose D.sure k).set q.1 q.2:=by rw[keepN,hq];simp[hp]
 unfold DS.kept;rw[this]
theorem DS.kept_len(D:DS)(p:Nat→Bool)(k:Nat):(D.kept p k).sure.length=D.sure.length:=keepN_len _ _ _ _
def Kept(w:World)(b sb cap:Nat)(lv:Value)(D:DS)(p:Nat→Bool)(k:Nat)(wr:World):Prop:=DrumAt wr b sb cap lv (D.kept p k)∧Mod (fun i=>i=sb) w wr
theorem info_secb:(Tryz.prog.info? 180).map (fun i=>i.size)=some 64:=by kernel_rfl
theorem info_looseb:(Tryz.prog.info? 182).map (fun i=>i.size)=some 65:=by kernel_rfl
theorem DrumAt.loose_block{w:World}{b sb cap g cp:Nat}{n:Nat}{D:DS}(h:DrumAt w b sb cap (.slice (some ⟨g,0,none⟩) n cp) D):∃ rest,w.heap[g]? = some (.cells (looseCells D.loose++rest).toArray 182 (0,0)):=by
 rcases h.loose.2 with ⟨e,_⟩ | ⟨g',cp',cur,e,_,hg,_,_,_,ht⟩
 ·cases e
 ·injection e with e1 e2 e3
  injection e1 with e1
  injection e1 with e1
  subst e1
  refine⟨cur.toList.drop (D.loose.length * 65),?_⟩
  rw[← ht,List.take_append_drop];exact hg
theorem DrumAt.sure_block{w:World}{b sb cap:Nat}{lv:Value}{D:DS}(h:DrumAt w b sb cap lv D):∃ rest,w.heap[sb]? = some (.cells (sureCells D.sure++rest).toArray 180 (0,0)):=by
 rcases h.sure.2 with ⟨e,_⟩ | ⟨g',cp',cur,e,_,hg,_,_,_,ht⟩
 ·cases e
 ·injection e with e1 e2 e3
  injection e1 with e1
  injection e1 with e1
  subst e1
  refine⟨cur.toList.drop (D.sure.length * 64),?_⟩
  rw[← ht,List.take_append_drop];exact hg
theorem DrumAt.loose_at{w:World}{b sb cap g cp:Nat}{n k:Nat}{D:DS}{q:Nat × List UInt8}(h:DrumAt w b sb cap (.slice (some ⟨g,0,none⟩) n cp) D)(hq:D.loose[k]? = some q):w.rangeAt g (k * 65) (looseCell q):=by
 obtain⟨rest,hb⟩:=h.loose_block
 have hw:∀ y∈D.loose,(looseCell y).length=65:=fun y hy=>looseCell_len y (h.wloose y hy).1
 have hk:=(List.getElem?_eq_some_iff.1 hq).1
 have hl:=flat_len looseCell 65 D.loose hw
 refine range_of_block hb ?_
 have e:looseCells D.loose=D.loose.flatMap looseCell:=rfl
 rw[looseCell_len q (h.wloose q (List.mem_of_getElem? hq)).1,e,List.drop_append_of_le_length (by rw[hl];omega),List.take_append_of_le_length (by rw[List.length_drop,hl];omega)]
 exact flat_at looseCell 65 D.loose k q hw hq
theorem DrumAt.sure_at{w:World}{b sb cap:Nat}{lv:Value}{k:Nat}{D:DS}{s:List UInt8}(h:DrumAt w b sb cap lv D)(hq:D.sure[k]? = some s):w.rangeAt sb (k * 64) (secCells s):=by
 obtain⟨rest,hb⟩:=h.sure_block
 have hw:∀ y∈D.sure,(secCells y).length=64:=fun y hy=>by rw[secCells_len];exact h.wsure y hy
 have hk:=(List.getElem?_eq_some_iff.1 hq).1
 have hl:=flat_len secCells 64 D.sure hw
 refine range_of_block hb ?_
 have e:sureCells D.sure=D.sure.flatMap secCells:=rfl
 rw[hw s (List.mem_of_getElem? hq),e,List.drop_append_of_le_length (by rw[hl];omega),List.take_append_of_le_length (by rw[List.length_drop,hl];omega)]
 exact flat_at secCells 64 D.sure k s hw hq
theorem DrumAt.sure_there{w:World}{b sb cap:Nat}{lv:Value}{k:Nat}{D:DS}(h:DrumAt w b sb cap lv D)(hk:k < D.sure.length):w.there sb (k * 64) 64:=by
 obtain⟨rest,hb⟩:=h.sure_block
 have hw:∀ y∈D.sure,(secCells y).length=64:=fun y hy=>by rw[secCells_len];exact h.wsure y hy
 have hl:=flat_len secCells 64 D.sure hw
 have e:sureCells D.sure=D.sure.flatMap secCells:=rfl
 exact there_of_block hb (by rw[e,List.length_append,hl];omega)
theorem Mod.setCells{F:Nat→Prop}(w:World)(b o:Nat)(vs:List Value)(ha:F b):Mod F w (w.setCells b o vs):=
 ⟨(setCells_os vs b o w).1,(setCells_os vs b o w).2.1,(setCells_os vs b o w).2.2,by rw[setCells_size];exact Nat.le_refl _,fun k _ hf=>setCells_other _ _ _ _ _ (fun e=>hf (e▸ha))⟩
theorem DrumAt.put{w:World}{b sb cap:Nat}{lv:Value}{k:Nat}{D:DS}{s:List UInt8}(h:DrumAt w b sb cap lv D)(hk:k < D.sure.length)(hs:s.length=64):DrumAt (w.setCells sb (k * 64) (secCells s)) b sb cap lv { D with sure:=D.sure.set k s } :=by
 have hm:Mod (fun i=>i=sb) w (w.setCells sb (k * 64) (secCells s)):=Mod.setCells _ _ _ _ rfl
 have hw:∀ y∈D.sure,(secCells y).length=64:=fun y hy=>by rw[secCells_len];exact h.wsure y hy
 have hl:=flat_len secCells 64 D.sure hw
 refine⟨?_,?_,ownsRow_mod h.loose hm (fun k hk e=>h.nes (by rw[hk,e])),h.ne,h.nel,h.nes,?_,?_,?_,?_⟩
 ·have:=h.cell.kept hm h.ne
  simpa using this
 ·rcases h.sure.2 with ⟨e,_⟩ | ⟨g',cp',cur,e,hb,hg,hc,hmx,hsz,ht⟩
  ·cases e
  ·injection e with e1 e2 e3
   injection e1 with e1
   injection e1 with e1
   subst e1
   subst e3
   have hcl:cur.toList.length=cap * 64:=by simpa using hsz
   have hle:D.sure.length * 64≤cap * 64:=Nat.mul_le_mul_right 64 hc
   have hgl:w.heap[sb]? = some (.cells cur.toList.toArray 180 (0,0)):=by simpa using hg
   have hlen:(secCells s).length=64:=by rw[secCells_len,hs]
   have hset:=setCells_heap 180 (0,0) (secCells s) sb (k * 64) w cur.toList hgl (by rw[hlen,hcl];omega)
   have e2:sureCells (D.sure.set k s)=(D.sure.set k s).flatMap secCells:=rfl
   have e3:sureCells D.sure=D.sure.flatMap secCells:=rfl
   refine⟨?_,.inr ⟨sb,cap,_,by rw[List.length_set],hb,hset,by rw[List.length_set];exact hc,hmx,?_,?_⟩⟩
   ·rw[e2,flat_set secCells 64 D.sure k s hw hk];simp[hl,hlen];omega
   ·simp[hlen,hcl];omega
   ·rw[e2,flat_set secCells 64 D.sure k s hw hk,← e3,← ht,List.length_set,hlen]
    simp only[List.take_append,List.length_append,List.length_take,hlen,hcl]
    rw[List.take_take,List.take_take,List.drop_take,List.take_of_length_le (l:=secCells s) (by rw[hlen];omega)]
    congr 1
    ·congr 2;omega
    ·congr 1;omega
 ·rw[List.length_set];exact h.pos
 ·rw[List.length_set];exact h.few
 ·intro x hx
  rcases List.mem_or_eq_of_mem_set hx with hx | hx
  ·exact h.wsure x hx
  ·rw[hx];exact hs
 ·intro q hq;rw[List.length_set];exact h.wloose q hq
theorem secCells_one(s:List UInt8):(secCells s).toArray.all (·.oneCell')=true:=by
 unfold secCells;rw[nums_ints];exact all_oneCell_toArray (Lib.byteCells_one _)
set_option maxRecDepth 100000 in
set_option maxHeartbeats 8000000 in
theorem keep_at(b sb cap:Nat)(lv:Value)(D:DS)(K:Nat)(caps:Array Value)(p:Nat→Bool)(w:World)(h:DrumAt w b sb cap lv D)(hn:D.loose.length≤1000000)
  (hK:∀ args W,(callFunc K args).run Tryz.prog W = .ok (.enter K args) W)
  (hcl:∀ W k,k < D.loose.length→Mod (fun i=>i=sb) w W→Calls Tryz.prog K (#[.int .i64 (k:Int)]++caps) W fun e w'=>e = .returned (.bool (p k))∧W=w') :
  Calls Tryz.prog 67 #[.pointer (some ⟨b,0,none⟩),.func (.func K) #[] caps] w fun e w'=>e = .returned (.tuple #[])∧DrumAt w' b sb cap (.slice none 0 0) { D with sure:=keepN p D.loose D.sure D.loose.length,loose:=[] }∧Mod (fun i=>i=b∨i=sb) w w':=by
 obtain⟨a,cp,hlv⟩:∃ a cp,lv = .slice a D.loose.length cp:=by
  rcases h.loose.2 with ⟨e,h0⟩ | ⟨g,cp,cur,e,_⟩
  ·exact⟨none,0,by rw[e,h0]⟩
  ·exact⟨_,cp,e⟩
 have c1:=h.cell.cells.2.1
 rw[hlv]at c1
 have ha:0 < D.loose.length→∃ g,a=some ⟨g,0,none⟩:=fun h0=>by
  obtain⟨g,c',e,_⟩:=h.loose.form h0
  rw[hlv]at e;injection e with e;exact⟨g,e⟩
 have HA:=Lib.hid ha
 have H:=Lib.hid h
 have HCL:=Lib.hid hcl
 obtain⟨n,hnn⟩:∃ n,n=D.loose.length:=⟨_,rfl⟩
 rw[← hnn]at c1 hn
 have HN:=Lib.hid hnn
 have HLV:=Lib.hid hlv
 clear h hlv hcl hnn ha
 go_enter Tryz.func67,Tryz.ntmps67
 go_wp2_with fail
 go_loopw [11] (fun i wr=>∃ k:Nat,k≤n∧i = .int .i64 (k:Int)∧Kept w b sb cap lv D p k wr) (fun i _=>n - (intOf i).toNat)
 case atStart=>exact⟨0,Nat.zero_le _,rfl,H.out,Mod.refl _ _⟩
 case round=>
  obtain⟨k,hk,rfl,hkept⟩:=hrel
  have HKE:=Lib.hid hkept
  clear hkept
  by_cases hlt:k < n
  ·obtain⟨g,rfl⟩:=HA.out (by have:=HN.out;omega)
   obtain⟨q,hq⟩:∃ q,D.loose[k]? = some q:=⟨_,List.getElem?_eq_getElem (by have:=HN.out;omega)⟩
   have hDk:DrumAt wr b sb cap (.slice (some ⟨g,0,none⟩) D.loose.length cp) (D.kept p k):=by rw[← HLV.out];exact HKE.out.1
   have hld:wr.rangeAt g (k * 65) (looseCell q):=hDk.loose_at hq
   have hq2:=hDk.wloose q (List.mem_of_getElem? hq)
   have hql:=looseCell_len q hq2.1
   have hqz:(Tryz.prog.info? 182).map (·.size)=some (looseCell q).length:=by rw[hql];exact info_looseb
   have hqz2:(Tryz.prog.info? 182).map (·.size)=some (looseCell q).toArray.size:=by simpa using hqz
   have hq1:(looseCell q).toArray.all (·.oneCell')=true:=all_oneCell_toArray (loose_one q.2 q.1)
   have hzq:Tryz.zeroCells182.size=(looseCell q).toArray.size:=by rw[zero_loose];simp[hql]
   have HLD:=Lib.hid hld
   have HDK:=Lib.hid hDk
   have HQ:=Lib.hid hq
   have HQ2:=Lib.hid hq2
   have HQL:=Lib.hid hql
   have HQZ:=Lib.hid hqz
   have HQZ2:=Lib.hid hqz2
   have HQ1:=Lib.hid hq1
   have HZQ:=Lib.hid hzq
   clear hld hDk hq hq2 hql hqz hqz2 hq1 hzq
   go_wp2_with (first
    | (refine wpList_load_mid rfl 182 _ rfl g (k * 65) rfl (looseCell q) _ HLD.out Tryz.underlying182 rfl HQZ.out ?_)
    | (refine wpList_store_row rfl 182 _ _ rfl wr.heap.size (looseCell q).toArray rfl rfl 182 _ (heap_alloc_last _ _) HQZ2.out HZQ.out HQ1.out ?_;rw[World.setRow_alloc_new]))
   obtain⟨gq,hgq⟩:∃ gq:Nat,gq=wr.heap.size:=⟨_,rfl⟩
   obtain⟨wx,hwx⟩:∃ wx:World,wx=wr.alloc (.cells (looseCell q).toArray 182):=⟨_,rfl⟩
   have hm1:Mod (fun _=>False) wr wx:=by rw[hwx];exact Mod.of_below (NewMem.alloc _ _)
   have hX:DrumAt wx b sb cap (.slice (some ⟨g,0,none⟩) D.loose.length cp) (D.kept p k):=HDK.out.kept hm1 (fun _ _=>id)
   have hXq:wx.heap[gq]? = some (.cells (looseCell q).toArray 182 (0,0)):=by rw[hwx,hgq];exact heap_alloc_last _ _
   have hmw:Mod (fun i=>i=sb) w wx:=HKE.out.2.trans hm1 (fun _ e=>e.elim)
   rw[← hwx,← hgq]
   have hc:=HCL.out wx k (by have:=HN.out;omega) hmw
   have HX:=Lib.hid hX
   have HXQ:=Lib.hid hXq
   have HMW:=Lib.hid hmw
   have HM1:=Lib.hid hm1
   clear hX hXq hmw hgq hwx hm1
   refine hc.mono ?_
   clear hc
   rintro e w' ⟨rfl,rfl⟩
   cases hp:p k with
   | false=>
    have HP:=Lib.hid hp
    clear hp
    go_wp2_with fail
    go_roundw
    case rel=>
     refine⟨k+1,by omega,by go_num,?_⟩
     unfold Kept
     rw[DS.kept_no HQ.out HP.out,HLV.out]
     exact⟨HX.out,HMW.out⟩
    case measure=>simp[intOf];omega
   | true=>
    have HP:=Lib.hid hp
    clear hp
    go_wp2_with fail
    refine' wp_region_facts (S:=(fun W=>W=wx.drew)) (R:=(fun a b=>a=b)) [eqF _ _,eqF _ _,eqF _ _,eqF _ (.slice (some ⟨sb,0,none⟩) D.sure.length cap),eqF _ _,eqF _ (.int .i64 (q.1:Int)),eqF _ _,eqF _ (.agg (secCells q.2).toArray),eqF _ (.pointer (some ⟨sb,q.1 * 64,none⟩))] (by kernel_rfl) (by kernel_rfl) ?hS ?h0 (Ord.steps_cons ?s0 (Ord.steps_cons ?s1 (Ord.steps_cons ?s2 (Ord.steps_cons ?s3 (Ord.steps_cons ?s4 (Ord.steps_cons ?s5 (Ord.steps_cons ?s6 (Ord.steps_cons ?s7 (Ord.steps_cons ?s8 (Ord.steps_nil)))))))))) ?fin
    case s0=>
     intro g W hSW hd
     try simp only[Nat.zero_add,Nat.reduceAdd]at hd ⊢
     with_reducible refine OpGives.pre_reads [] 32 ?_ ?_ ?_
     ·rfl
     ·kernel_rfl
     simp only[List.map_cons,List.map_nil]
     refine OpGives.val (w':=W) ?_ ⟨rfl,rfl⟩
     go_simp
     try with_reducible rfl
    case s1=>
     intro g W hSW hd
     try simp only[Nat.zero_add,Nat.reduceAdd]at hd ⊢
     have h0:g 0=_:=hd 0 (by decide) (by kernel_rfl)
     with_reducible refine OpGives.pre_reads [(19,0)] 32 ?_ ?_ ?_
     ·rfl
     ·kernel_rfl
     simp only[List.map_cons,List.map_nil]
     refine OpGives.val (w':=W) ?_ ⟨rfl,rfl⟩
     go_simp
     try with_reducible rfl
    case s2=>
     intro g W hSW hd
     try simp only[Nat.zero_add,Nat.reduceAdd]at hd ⊢
     have h1:g 1=_:=hd 1 (by decide) (by kernel_rfl)
     with_reducible refine OpGives.pre_reads [(20,1)] 32 ?_ ?_ ?_
     ·rfl
     ·kernel_rfl
     simp only[List.map_cons,List.map_nil]
     refine OpGives.val (w':=W) ?_ ⟨rfl,rfl⟩
     go_simp
     try with_reducible rfl
    case s3=>
     intro g W hSW hd
     try simp only[Nat.zero_add,Nat.reduceAdd]at hd ⊢
     have h2:g 2=_:=hd 2 (by decide) (by kernel_rfl)
     with_reducible refine OpGives.pre_reads [(21,2)] 32 ?_ ?_ ?_
     ·rfl
     ·kernel_rfl
     simp only[List.map_cons,List.map_nil]
     subst hSW;have c0:wx.cell? ⟨b,0,none⟩=some (.slice (some ⟨sb,0,none⟩) D.sure.length cap):=by {have:=HX.out.cell.cells.1;rwa [DS.kept_len]at this};refine OpGives.val (w':=wx.drew) ?_ ⟨rfl,rfl⟩;go_simp
    case s4=>
     intro g W hSW hd
     try simp only[Nat.zero_add,Nat.reduceAdd]at hd ⊢
     with_reducible refine OpGives.pre_reads [] 32 ?_ ?_ ?_
     ·rfl
     ·kernel_rfl
     simp only[List.map_cons,List.map_nil]
     refine OpGives.val (w':=W) ?_ ⟨rfl,rfl⟩
     go_simp
     try with_reducible rfl
    case s5=>
     intro g W hSW hd
     try simp only[Nat.zero_add,Nat.reduceAdd]at hd ⊢
     have h4:g 4=_:=hd 4 (by decide) (by kernel_rfl)
     with_reducible refine OpGives.pre_reads [(23,4)] 32 ?_ ?_ ?_
     ·rfl
     ·kernel_rfl
     simp only[List.map_cons,List.map_nil]
     subst hSW;have c0:wx.cell? ⟨gq,64,none⟩=some (.int .i64 (q.1:Int)):=by {rw[cell_of_row _ _ _ _ _ _ HXQ.out];simp[looseCell,secCells_len,HQ2.out.1]};refine OpGives.val (w':=wx.drew) ?_ ⟨rfl,rfl⟩;go_simp
    case s6=>
     intro g W hSW hd
     try simp only[Nat.zero_add,Nat.reduceAdd]at hd ⊢
     with_reducible refine OpGives.pre_reads [] 32 ?_ ?_ ?_
     ·rfl
     ·kernel_rfl
     simp only[List.map_cons,List.map_nil]
     refine OpGives.val (w':=W) ?_ ⟨rfl,rfl⟩
     go_simp
     try with_reducible rfl
    case s7=>
     intro g W hSW hd
     try simp only[Nat.zero_add,Nat.reduceAdd]at hd ⊢
     have h6:g 6=_:=hd 6 (by decide) (by kernel_rfl)
     with_reducible refine OpGives.pre_reads [(25,6)] 32 ?_ ?_ ?_
     ·rfl
     ·kernel_rfl
     simp only[List.map_cons,List.map_nil]
     subst hSW;refine OpGives.val (w':=wx.drew) (exec_load_mid 180 _ rfl gq 0 ?_ (secCells q.2) _ (range_of_block HXQ.out ?_) Tryz.underlying180 rfl ?_) ⟨rfl,rfl⟩;(rw[h6];simp[rdl_cons]);(simp[looseCell]);(rw[secCells_len,HQ2.out.1];exact info_secb)
    case s8=>
     intro g W hSW hd
     try simp only[Nat.zero_add,Nat.reduceAdd]at hd ⊢
     have h3:g 3=_:=hd 3 (by decide) (by kernel_rfl)
     have h5:g 5=_:=hd 5 (by decide) (by kernel_rfl)
     with_reducible refine OpGives.pre_reads [(22,3),(24,5)] 32 ?_ ?_ ?_
     ·rfl
     ·kernel_rfl
     simp only[List.map_cons,List.map_nil]
     have hb:q.1 < D.sure.length:=by {have:=HQ2.out.2;rwa [DS.kept_len]at this};refine OpGives.val (w':=W) ?_ ⟨rfl,rfl⟩;go_simp
    case hS=>rintro a c h rfl;exact h
    case h0=>rfl
    case fin=>
     intro v W hSW hf
     subst hSW
     have h7:v 7=_:=hf 7 (Nat.lt_of_lt_of_eq (by decide:7 < 9) rfl)
     have h8:v 8=_:=hf 8 (Nat.lt_of_lt_of_eq (by decide:8 < 9) rfl)
     clear hf
     generalize hF:Ord.pre _ _ v _=F
     rw[Ord.pre_lit [some 19,some 20,some 21,some 22,some 23,some 24,some 25,some 26,some 27]
      (by kernel_rfl)]at hF
     simp only[Ord.puts,Nat.zero_add,Nat.reduceAdd]at hF
     subst hF
     rw[h7,h8]
     have hkq:q.1 < (D.kept p k).sure.length:=HQ2.out.2
     have hput:=HX.out.put hkq HQ2.out.1
     have hput':DrumAt (wx.drew.setCells sb (q.1 * 64) (secCells q.2)) b sb cap (.slice (some ⟨g,0,none⟩) D.loose.length cp) (D.kept p (k+1)):=by
      rw[DS.kept_yes HQ.out HP.out]
      exact(HX.out.kept (F:=fun _=>False) (Mod.drew (Mod.refl _ _)) (fun _ _=>id)).put hkq HQ2.out.1
     have hth:wx.drew.there sb (q.1 * 64) (secCells q.2).toArray.size:=by
      have:=(HX.out.kept (F:=fun _=>False) (Mod.drew (Mod.refl _ _)) (fun _ _=>id)).sure_there hkq
      simpa [secCells_len,HQ2.out.1] using this
     have hsz:(Tryz.prog.info? 180).map (·.size)=some (secCells q.2).toArray.size:=by
      rw[List.size_toArray,secCells_len,HQ2.out.1];exact info_secb
     have hmW:Mod (fun i=>i=sb) w (wx.drew.setCells sb (q.1 * 64) (secCells q.2)):=(Mod.drew HMW.out).trans (Mod.setCells (F:=fun i=>i=sb) _ _ _ _ rfl) (fun _ e=> .inl e)
     refine any_one (i:=9) (by kernel_rfl) ?_
     refine wpOp_skip (w':=wx.drew.setCells sb (q.1 * 64) (secCells q.2)) rfl rfl ?_ ?_
     ·refine exec_store_mid 180 (.tmp 27) (.tmp 26) (by rfl) sb (q.1 * 64) (secCells q.2).toArray ?_ ?_ hth hsz (secCells_one _)
      ·go_simp
      ·go_simp
     refine wpAny_done (by kernel_rfl) ?_ _
     simp only[List.getElem_toArray,List.getElem_cons_succ,List.getElem_cons_zero]
     go_frame
     have HPU:=Lib.hid hput'
     have HMW2:=Lib.hid hmW
     clear hput hput' hth hsz hmW h7 h8
     generalize wx.drew.setCells sb (q.1 * 64) (secCells q.2)=wy at *
     go_wp2_with fail
     go_roundw
     case rel=>exact⟨k+1,by omega,by go_num,by rw[HLV.out];exact HPU.out,HMW2.out⟩
     case measure=>simp[intOf];omega
  ·have hD:DrumAt wr b sb cap lv (D.kept p k):=HKE.out.1
   have c1:=hD.cell.cells.2.1
   have f1:=hD.cell.free 1
   have HD:=Lib.hid hD
   clear hD
   have hkn:k=D.loose.length:=by have:=HN.out;omega
   have HKN:=Lib.hid hkn
   clear hkn
   go_wp2_with fail
   go_end0
   have hm:Mod (fun i=>i=b) wr (wr.setCell ⟨b,1,none⟩ (.slice none 0 0)):=Mod.setCell _ _ _ rfl
   refine⟨rfl,?_,(HKE.out.2.mono (fun _ e=>Or.inr e)).trans hm (fun _ e=> .inl (.inl e))⟩
   rw[← HKN.out]
   have hd:=HD.out
   exact⟨hd.cell.set1 _,ownsRow_mod hd.sure hm (fun k hk e=>hd.ne (by subst e;simpa [Value.ownBlock] using hk.symm)),World.ownsRow_nil _ _ _ _,hd.ne,by simp[Value.ownBlock],by simp[Value.ownBlock],hd.pos,hd.few,hd.wsure,fun q hq=>by cases hq⟩
end Go.Proofs.YtlmabbigfdbmbaaGreatDoor.Drum
namespace Go.Proofs.YtlmabbigfdbmbaaGreatDoor.Drum
open Go.RowKit Go.Proofs.YtlmabbigfdbmbaaGreatDoor.Ord Go.Proofs.YtlmabbigfdbmbaaGreatDoorW.PrintWords Go.Proofs.YtlmabbigfdbmbaaGreatDoor.Base
theorem always_at(k:Nat)(w:World):Calls Tryz.prog 165 (#[.int .i64 (k:Int)] ++ #[]) w fun e w'=>e = .returned (.bool true)∧w=w':=by
 show Calls Tryz.prog _ #[.int .i64 (k:Int)] _ _
 go_enter Tryz.func165,Tryz.ntmps165
 go_wp2_with fail
 go_ret
 exact⟨rfl,rfl⟩
theorem enters_always:∀ args W,(callFunc 165 args).run Tryz.prog W = .ok (.enter 165 args) W:=by
 intro args W
 have hf:=Tryz.func165
 simp[callFunc,hf,mark,Tryz.f165]
def DS.settle(D:DS):Int × DS:=if D.burn.1=0 then (0,{ D.burn.2 with sure:=keepN (fun _=>true) D.loose D.sure D.loose.length,loose:=[] })else D.burn
set_option maxHeartbeats 4000000 in
theorem settle_at(b sb cap:Nat)(lv:Value)(D:DS)(w:World)(h:DrumAt w b sb cap lv D)(hn:D.loose.length≤1000000) :
  Calls Tryz.prog 130 #[.pointer (some ⟨b,0,none⟩)] w fun e w'=>Did w b sb cap lv D.settle e w':=by
 have c0:=h.cell.cells.1
 have cm:Calls Tryz.prog 66 #[.pointer (some ⟨b,0,none⟩)] w fun e w'=>e = .returned (.bool true)∧w=w':=by
  have:=made_of b _ _ _ w c0
  rwa [decide_eq_true h.pos]at this
 have CM:=Lib.hid cm
 have CB:=Lib.hid (burn_at b _ _ _ _ _ w h.cell)
 have H:=Lib.hid h
 clear h cm c0
 unfold DS.settle
 by_cases hb0:D.burn.1=0
 ·rw[if_pos hb0]
  have hb0':(burns D.armed D.left D.down).1=0:=hb0
  have HB0:=Lib.hid hb0'
  clear hb0 hb0'
  go_enter Tryz.func130,Tryz.ntmps130
  go_wp2_with fail
  refine CM.out.mono ?_
  rintro e w' ⟨rfl,rfl⟩
  go_wp2_with fail
  refine CB.out.mono ?_
  rintro e w1 ⟨rfl,hc1,hm1⟩
  rw[HB0.out]
  have hd1:=H.out.burnt hc1 hm1
  have ck:=keep_at b sb cap lv D.burn.2 165 #[] (fun _=>true) w1 hd1 hn enters_always (fun W k _ _=>always_at k W)
  have CK:=Lib.hid ck
  have HM1:=Lib.hid hm1
  clear hd1 ck hc1 hm1
  go_wp2_with fail
  refine CK.out.mono ?_
  rintro e w2 ⟨rfl,hd2,hm2⟩
  have HD:=Lib.hid (show Did w b sb cap lv (0,{ D.burn.2 with sure:=keepN (fun _=>true) D.loose D.sure D.loose.length,loose:=[] }) (.returned (.int .i64 0)) w2 from
   ⟨.slice none 0 0,rfl,hd2,fun _ h=>by simp[Value.ownBlock]at h,(HM1.out.mono (fun _ e=>Or.inl e)).trans hm2 (fun _ e=> .inl (by rcases e with e | e;exact .inl e;exact .inr (.inl e)))⟩)
  clear hd2 hm2
  go_wp2_with fail
  go_ret
  exact HD.out
 ·rw[if_neg hb0]
  have hb0':(burns D.armed D.left D.down).1≠0:=hb0
  have hbd:((burns D.armed D.left D.down).1 == 0)=false:=by simpa using hb0'
  go_enter Tryz.func130,Tryz.ntmps130
  go_wp2_with fail
  refine CM.out.mono ?_
  rintro e w' ⟨rfl,rfl⟩
  go_wp2_with fail
  refine CB.out.mono ?_
  rintro e w1 ⟨rfl,hc1,hm1⟩
  have HD:=Lib.hid (show Did w b sb cap lv D.burn (.returned (.int .i64 (burns D.armed D.left D.down).1)) w1 from⟨lv,rfl,H.out.burnt hc1 hm1,fun _ h=> .inl h,hm1.mono (fun _ e=> .inl e)⟩)
  clear hc1 hm1
  go_wp2
  go_ret
  exact HD.out
end Go.Proofs.YtlmabbigfdbmbaaGreatDoor.Drum
namespace Go.Proofs.YtlmabbigfdbmbaaGreatDoor.Drum
open Go.RowKit Go.Proofs.YtlmabbigfdbmbaaGreatDoor.Ord Go.Proofs.YtlmabbigfdbmbaaGreatDoorW.PrintWords Go.Proofs.YtlmabbigfdbmbaaGreatDoor.Base
open Go.Shelf
attribute [local go_sem] Oper.semAt_some
section
variable{F:Fence}{n:Nat}{P:Program}{ops:Array Oper}{Q:Exit→Act→World→Prop}{a:Act}{w w':World}{rest:List Oper}{o:Oper}{v:Value}
theorem wpListIn_value(hg:o.guard=none)(hd:∀ c,o.op≠.defer c)(ha:o.about P w a.eval=none)(hr:(execOp a.eval o).run P w = .ok (.value v) w')(h:wpListIn F n P ops Q rest (a.put o.dst v) w'):wpListIn F n P ops Q (o :: rest) a w:=by
 refine wpListIn_plain hg fun K hK'=>?_
 unfold Oper.wpIn
 refine⟨(fun f hf=>by rw[ha]at hf;cases hf),?_⟩
 rw[Oper.semAt_plain F _ _ hd,hr]
 simp[go_sem]
 exact hK' _ _ h
theorem wpListIn_skipped(hg:o.guard=none)(hd:∀ c,o.op≠.defer c)(ha:o.about P w a.eval=none)(hr:(execOp a.eval o).run P w = .ok .skip w')(h:wpListIn F n P ops Q rest (a.put o.dst undef) w'):wpListIn F n P ops Q (o :: rest) a w:=by
 refine wpListIn_plain hg fun K hK'=>?_
 unfold Oper.wpIn
 refine⟨(fun f hf=>by rw[ha]at hf;cases hf),?_⟩
 rw[Oper.semAt_plain F _ _ hd,hr]
 simp[go_sem]
 exact hK' _ _ h
end
abbrev LE:={ q:Nat × List UInt8 // q.2.length=64 }
def LE.zero:LE:=⟨(0,List.replicate 64 0),by simp⟩
def comes(les:List LE)(k:Nat):List (Nat × LE):=(List.range k).map fun j=>(les.length - 1 - j,les.getD (les.length - 1 - j) LE.zero)
theorem comes_succ(les:List LE)(k:Nat):comes les (k+1)=comes les k ++ [(les.length - 1 - k,les.getD (les.length - 1 - k) LE.zero)]:=by simp[comes,List.range_succ]
theorem comes_len(les:List LE)(k:Nat):(comes les k).length=k:=by simp[comes]
def encLE(x:Nat × LE):Array Value:=#[.int .i64 (x.1:Int),.agg (looseCell x.2.1).toArray]
def down:Nat→Int
 | 0=>-1
 | j+1=>(j:Int)
set_option maxRecDepth 100000 in
set_option maxHeartbeats 4000000 in
theorem back1_in(F:Fence)(n:Nat)(hf:F.fn 212)(hro:F.round=none)(hn:1≤n)(l Bs n₀ g cap:Nat)(les:List LE)(hreach:les.length≤1000000)(hb:g < n₀)(hBn:Bs < n₀)(J Jx:List (Nat × LE)→World→Prop)
  (hY:∀ pre x W,J pre W→pre.length < les.length→YieldAt F (n - 1) Tryz.prog l (encLE x) W fun e W'=>
   (e = .returned (.bool true)∧J (pre ++ [x]) W'∧Below n₀ W W')∨(e = .returned (.bool false)∧Jx (pre ++ [x]) W'))
  (W:World) (hBs:W.cell? ⟨Bs,0,none⟩=some (.slice (some ⟨g,0,none⟩) les.length cap)) (hc:∀ j x,les[j]? = some x→W.rangeAt g (j * 65) (looseCell x.1)) (h0:J [] W) :
  CallsIn F n Tryz.prog 212 #[.func (.yield l) #[] #[],.pointer (some ⟨Bs,0,none⟩)] W fun e W'=>(∃ v,e = .returned v)∧
   ((∃ ys,ys=comes les les.length∧J ys W')∨(∃ pre,(∃ k,k≤les.length∧pre=comes les k)∧Jx pre W')):=by
 have HC:=Lib.hid hc
 have HBS:=Lib.hid hBs
 obtain⟨N,hN⟩:∃ N,N=les.length:=⟨_,rfl⟩
 have HN:=Lib.hid hN
 have HY:=Lib.hid hY
 rw[← hN]at hBs hreach
 have hs:(down N)=(N:Int) - 1:=by cases N with
  | zero=>rfl
  | succ N=>simp only[down];omega
 clear hc hY hN
 refine callsIn_of_wp Tryz.func212 rfl hf ?_ hro
 simp only[Tryz.ntmps212,List.size_toArray,List.length_cons,List.length_nil,Nat.reduceAdd,Nat.reduceSub,Array.replicate_succ,Array.replicate_zero,List.push_toArray,List.append_toArray,List.nil_append,List.cons_append]
 gi_wp2
 rw[← hs]
 have HS:=Lib.hid hs
 clear hs
 gi_loopw [3] (fun i wr=>∃ m k:Nat,m+k=N∧i = .int .i64 (down m)∧J (comes les k) wr∧Below n₀ W wr)
  (fun i _=>(intOf i+1).toNat)
 case atStart=>exact⟨N,0,by omega,rfl,h0,Below.refl _ _⟩
 case round=>
  obtain⟨m,k,hmk,rfl,hJs,hnx⟩:=hrel
  have hbs:wr.cell? ⟨Bs,0,none⟩=some (.slice (some ⟨g,0,none⟩) N cap):=(hnx.cell (p:=⟨Bs,0,none⟩) hBn).trans hBs
  cases m with
  | zero=>
   have hk:k=les.length:=by have:=HN.out;omega
   rw[show down 0 = -1 from rfl]
   gi_wp2
   go_end0
   exact⟨⟨_,rfl⟩,.inl ⟨_,by rw[hk],hJs⟩⟩
  | succ j=>
   have hkl:j < les.length:=by have:=HN.out;omega
   have hx:les[j]? = some (les.getD j LE.zero):=by simp[List.getElem?_eq_getElem hkl]
   have hje:les.length - 1 - k=j:=by have:=HN.out;omega
   obtain⟨x,hxd⟩:∃ x,x=les.getD j LE.zero:=⟨_,rfl⟩
   have hsucc:comes les (k+1)=comes les k ++ [(j,x)]:=by rw[comes_succ,hje,← hxd]
   rw[← hxd]at hx
   have hld:wr.rangeAt g (j * 65) (looseCell x.1):=fun i v hv=>(hnx.cell (p:=⟨g,j * 65+i,none⟩) hb).trans (HC.out j x hx i v hv)
   have hqz:(Tryz.prog.info? 182).map (·.size)=some (looseCell x.1).length:=by rw[looseCell_len _ x.2];exact info_looseb
   obtain⟨fn,tmps,assign,body,hy,hR⟩:=HY.out _ (j,x) wr hJs (by rw[comes_len];have:=HN.out;omega)
   unfold encLE at hy
   dsimp only at hy
   have HLD:=Lib.hid hld
   have HQZ:=Lib.hid hqz
   have HSC:=Lib.hid hsucc
   have HJE:=Lib.hid hje
   have hnn:j < N:=by omega
   clear hld hqz hsucc hx hxd hje hkl
   rw[show down (j+1)=(j:Int)from rfl]
   gi_wp2_with (refine wpListIn_value rfl (fun _ h=>by cases h) rfl (exec_load_mid 182 _ rfl g (j * 65) rfl (looseCell x.1) _ HLD.out Tryz.underlying182 rfl HQZ.out) ?_)
   refine hR.mono ?_
   rintro e W3 (⟨rfl,hJ3,hk3⟩ | ⟨rfl,hJx3⟩)
   ·gi_wp2
    have hdj:(j:Int) - 1=down j:=by
     cases j with
     | zero=>rfl
     | succ j=>simp only[down];omega
    go_roundw
    case rel=>exact⟨j,k+1,by omega,by rw[hdj],by rw[HSC.out];exact hJ3,hnx.trans hk3⟩
    case measure=>simp only[intOf];omega
   ·gi_wp2
    refine bodyPost_ret (results_none rfl _ _ _) rfl ?_
    exact⟨⟨_,rfl⟩,.inr ⟨_,⟨k+1,by have:=HN.out;omega,HSC.out.symm⟩,hJx3⟩⟩
set_option maxHeartbeats 4000000 in
theorem back1_nil_in(F:Fence)(n:Nat)(hf:F.fn 212)(hro:F.round=none)(l Bs:Nat)(J:List (Nat × LE)→World→Prop)(W:World)(hBs:W.cell? ⟨Bs,0,none⟩=some (.slice none 0 0))(h0:J [] W) :
  CallsIn F n Tryz.prog 212 #[.func (.yield l) #[] #[],.pointer (some ⟨Bs,0,none⟩)] W fun e W'=>(∃ v,e = .returned v)∧J [] W':=by
 refine callsIn_of_wp Tryz.func212 rfl hf ?_ hro
 simp only[Tryz.ntmps212,List.size_toArray,List.length_cons,List.length_nil,Nat.reduceAdd,Nat.reduceSub,Array.replicate_succ,Array.replicate_zero,List.push_toArray,List.append_toArray,List.nil_append,List.cons_append]
 gi_wp2
 gi_loopw [3] (fun i wr=>i = .int .i64 (-1)∧J [] wr) (fun _ _=>0)
 case atStart=>exact⟨rfl,h0⟩
 case round=>
  obtain⟨rfl,hJs⟩:=hrel
  gi_wp2
  go_end0
  exact⟨⟨_,rfl⟩,hJs⟩
set_option maxHeartbeats 4000000 in
theorem back_in(F:Fence)(n:Nat)(hf:F.fn 203)(hro:F.round=none)(a:Option Addr)(len cap:Nat)(w:World) :
  CallsIn F n Tryz.prog 203 #[.slice a len cap] w fun e w'=>e = .returned (.func (.func 212) #[] #[.pointer (some ⟨w.heap.size,0,none⟩)])∧w'=w.alloc (.cells #[.slice a len cap] 120):=by
 refine callsIn_of_wp Tryz.func203 rfl hf ?_ hro
 simp only[Tryz.ntmps203,List.size_toArray,List.length_cons,List.length_nil,Nat.reduceAdd,Nat.reduceSub,Array.replicate_succ,Array.replicate_zero,List.push_toArray,List.append_toArray,List.nil_append,List.cons_append]
 gi_wp2
 go_ret
 exact⟨rfl,rfl⟩
def LooseIn(n₀:Nat)(W:World)(lv:Value)(les:List LE):Prop:=
 (lv = .slice none 0 0∧les = [])∨∃ g cap,lv = .slice (some ⟨g,0,none⟩) les.length cap∧g < n₀∧∀ j x,les[j]? = some x→W.rangeAt g (j * 65) (looseCell x.1)
theorem LooseIn.below{n₀:Nat}{A B:World}(h:Below n₀ A B){lv:Value}{les:List LE} : LooseIn n₀ A lv les→LooseIn n₀ B lv les
 | .inl e=> .inl e
 | .inr ⟨g,cap,e,hb,hc⟩=> .inr ⟨g,cap,e,hb,fun j x hx i v hv=>(h.cell (p:=⟨g,j * 65+i,none⟩) hb).trans (hc j x hx i v hv)⟩
theorem back_stops(F:Fence)(n:Nat)(hf:F.fn 212)(hro:F.round=none)(hn:1≤n)(Bs n₀:Nat)(lv:Value)(les:List LE)(hreach:les.length≤1000000)(w:World)(hBs:Bs < n₀)(hn₀:n₀≤w.heap.size)
  (hc:w.cell? ⟨Bs,0,none⟩=some lv) (hI:LooseIn n₀ w lv les) :
  SeqStopsK F n Tryz.prog 212 #[.pointer (some ⟨Bs,0,none⟩)] encLE (Below n₀) (fun ys=>ys=comes les les.length)
   (fun pre=>∃ k,k≤les.length∧pre=comes les k) les.length w:=fun l J Jx W hW _ _ hY h0=>by
 have hc':=(hW.cell (p:=⟨Bs,0,none⟩) (Nat.lt_of_lt_of_le hBs hn₀)).trans hc
 rcases hI.below (hW.mono hn₀)with ⟨rfl,rfl⟩ | ⟨g,cap,rfl,hb,hcs⟩
 ·exact(back1_nil_in F n hf hro l Bs J W hc' h0).mono fun e W' ⟨he,hj⟩=>⟨he,.inl ⟨_,rfl,hj⟩⟩
 ·exact back1_in F n hf hro hn l Bs n₀ g cap les hreach hb hBs J Jx hY W hc' hcs h0
end Go.Proofs.YtlmabbigfdbmbaaGreatDoor.Drum
namespace Go.Proofs.YtlmabbigfdbmbaaGreatDoor.Drum
open Go.RowKit Go.Proofs.YtlmabbigfdbmbaaGreatDoor.Ord Go.Proofs.YtlmabbigfdbmbaaGreatDoorW.PrintWords Go.Proofs.YtlmabbigfdbmbaaGreatDoor.Base
open Go.Shelf
attribute [local go_sem] Oper.semAt_some rdl_const rdl_func rdl_global rdl_nil rdl_cons
theorem block_own{β:Type}(B:Nat)(cs:Array Value)(t:TypeId)(fr:Nat × Nat)(n:Nat):OwnFrom n (fun(_:β) W=>W.heap[B]? = some (.cells cs t fr)):=fun s X Y row hs hg hrow=>
 (hg.block B (Array.getElem?_eq_some_iff.1 hs).1 (fun e=>by
  obtain⟨_,o,ho,hc⟩:=hrow B e.symm
  rw[show X.heap[B]? = _ from hs]at ho;cases ho;cases hc)).trans hs
theorem KeepsOthers.of_new{W W':World}(h:NewMem W W'):KeepsOthers W W':=⟨h.size,fun k o hk _=>(h.block k (Array.getElem?_eq_some_iff.1 hk).1).trans hk⟩
theorem comes_find(les:List LE)(j:Nat)(k:Nat)(hk:k < les.length)(hne:∀ p∈comes les k,p.2.1.1≠j)(hx:(les.getD (les.length - 1 - k) LE.zero).1.1=j) :
  (les.map Subtype.val).reverse.find? (fun q=>q.1 == j)=some (les.getD (les.length - 1 - k) LE.zero).1:=by
 rw[List.find?_eq_some_iff_getElem]
 have hl:k < (les.map Subtype.val).reverse.length:=by simpa using hk
 have hget:∀ i (hi:i < (les.map Subtype.val).reverse.length),(les.map Subtype.val).reverse[i]=(les.getD (les.length - 1 - i) LE.zero).1:=fun i hi=>by
  have h2:i < les.length:=by simpa using hi
  have h3:les.length - 1 - i < les.length:=by omega
  rw[List.getElem_reverse,List.getElem_map]
  simp[List.getD_eq_getElem?_getD,List.getElem?_eq_getElem h3]
 refine⟨by rw[hx];exact beq_self_eq_true j,k,hl,hget k hl,fun i hi=>?_⟩
 rw[hget i (by omega)]
 have:=hne (les.length - 1 - i,les.getD (les.length - 1 - i) LE.zero) (by unfold comes;exact List.mem_map.2 ⟨i,List.mem_range.2 hi,rfl⟩)
 simpa using this
theorem comes_none(les:List LE)(j:Nat)(hne:∀ p∈comes les les.length,p.2.1.1≠j):(les.map Subtype.val).reverse.find? (fun q=>q.1 == j)=none:=by
 rw[List.find?_eq_none]
 intro q hq
 rw[List.mem_reverse,List.mem_map]at hq
 obtain⟨x,hx,rfl⟩:=hq
 obtain⟨i,hi,rfl⟩:=List.getElem_of_mem hx
 have:=hne (i,les[i]) (by
  unfold comes
  refine List.mem_map.2 ⟨les.length - 1 - i,List.mem_range.2 (by omega),?_⟩
  have e:les.length - 1 - (les.length - 1 - i)=i:=by omega
  rw[e]
  simp[List.getD_eq_getElem?_getD,List.getElem?_eq_getElem hi])
 simpa using this
theorem DrumAt.loose_in{w:World}{b sb cap n₀:Nat}{lv:Value}{D:DS}{les:List LE}(h:DrumAt w b sb cap lv D)(hles:D.loose=les.map Subtype.val)(hn:w.heap.size≤n₀):LooseIn n₀ w lv les:=by
 rcases h.loose.2 with ⟨e,h0⟩ | ⟨g,cp,cur,e,_,hg,_⟩
 ·exact .inl ⟨e,by have:=congrArg List.length hles;simp[h0]at this;exact List.length_eq_zero_iff.1 this.symm⟩
 ·subst e
  refine .inr ⟨g,cp,by rw[hles,List.length_map],Nat.lt_of_lt_of_le (Array.getElem?_eq_some_iff.1 hg).1 hn,fun j x hx=>?_⟩
  exact h.loose_at (q:=x.1) (by rw[hles,List.getElem?_map,hx];rfl)
def DS.shows(D:DS)(i:Nat):List UInt8:=match D.loose.reverse.find? (fun q=>q.1 == i)with
 | some q=>q.2
 | none=>D.sure.getD i []
def DS.read(D:DS)(i:Int):List UInt8 × Int:=if D.down then ([],9)else if 0≤i∧i < (D.sure.length:Int)then (D.shows i.toNat,0)else ([],6)
def w3of(w:World)(i:Int):World:=((w.alloc (.cells #[.int .i64 i] 3)).alloc (.cells #[.string ByteArray.empty] 9)).alloc (.cells #[.int .i64 0] 44)
theorem w3of_new(w:World)(i:Int):NewMem w (w3of w i):=((NewMem.alloc _ _).trans (NewMem.alloc _ _)).trans (NewMem.alloc _ _)
set_option maxRecDepth 100000 in
set_option maxHeartbeats 8000000 in
theorem read_at(b sb cap:Nat)(lv:Value)(D:DS)(i:Int)(w:World)(h:DrumAt w b sb cap lv D)(hn:D.loose.length≤1000000) :
  Calls Tryz.prog 189 #[.pointer (some ⟨b,0,none⟩),.int .i64 i] w fun e w'=>e = .returned (.tuple #[.string ⟨(D.read i).1.toArray⟩,.int .i64 (D.read i).2])∧NewMem w w':=by
 have h3:DrumAt (w3of w i) b sb cap lv D:=h.kept (F:=fun _=>False) (Mod.of_below (w3of_new w i)) (fun _ _=>id)
 have cm:Calls Tryz.prog 66 #[.pointer (some ⟨b,0,none⟩)] (w3of w i) fun e w'=>e = .returned (.bool true)∧w3of w i=w':=by
  have:=made_of b _ _ _ _ h3.cell.cells.1
  rwa [decide_eq_true h.pos]at this
 have ch:=has_of b _ _ _ i _ h3.cell.cells.1
 have hd4:=h3.cell.cells.2.2.2.2
 have CM:=Lib.hid cm
 unfold w3of at hd4
 unfold DS.read
 cases hdn:D.down with
 | true=>
  rw[hdn]at hd4
  have HH:=Lib.hid hdn
  clear h h3 cm ch hdn
  rw[if_pos rfl]
  refine(callsIn_wide (n:=3)).1 ?_
  refine callsIn_of_wp_marks Tryz.func189 rfl trivial ?_ rfl
  simp only[Tryz.ntmps189,List.size_toArray,List.length_cons,List.length_nil,Nat.reduceAdd,Nat.reduceSub,Array.replicate_succ,Array.replicate_zero,List.push_toArray,List.append_toArray,List.nil_append,List.cons_append]
  gi_wp2_with (refine⟨trivial,?_⟩;refine(callsIn_wide.2 CM.out).mono ?_;rintro e w' ⟨rfl,rfl⟩;unfold w3of)
  refine⟨.tuple #[.string ⟨([]:List UInt8).toArray⟩,.int .i64 9],by simp[results,Tryz.f189,go_sem],rfl,?_⟩
  exact((NewMem.alloc _ _).trans (NewMem.alloc _ _)).trans (NewMem.alloc _ _)
 | false=>
  rw[hdn]at hd4
  have HH:=Lib.hid hdn
  clear hdn
  rw[if_neg (by simp)]
  by_cases hr:0≤i∧i < (D.sure.length:Int)
  ·rw[if_pos hr]
   rw[decide_eq_true hr]at ch
   obtain⟨j,rfl⟩:∃ j:Nat,i=(j:Int):=⟨i.toNat,by omega⟩
   rw[Int.toNat_natCast]
   obtain⟨res,hres⟩:∃ res,res=D.shows j:=⟨_,rfl⟩
   rw[← hres]
   have HRES:=Lib.hid hres
   clear hres
   have hj:j < D.sure.length:=by omega
   have CH:=Lib.hid ch
   have c1:=h3.cell.cells.2.1
   unfold w3of at c1
   obtain⟨a,cp,hlv⟩:∃ a cp,lv = .slice a D.loose.length cp:=by
    rcases h.loose.2 with ⟨e,h0⟩ | ⟨g,cp,cur,e,_⟩
    ·exact⟨none,0,by rw[e,h0]⟩
    ·exact⟨_,cp,e⟩
   rw[hlv]at c1
   obtain⟨les,hles⟩:∃ les:List LE,D.loose=les.map Subtype.val:=⟨D.loose.attach.map (fun q=>⟨q.1,(h.wloose q.1 q.2).1⟩),by simp[List.map_map,Function.comp_def,List.attach_map_subtype_val]⟩
   have hlen:D.loose.length=les.length:=by rw[hles,List.length_map]
   rw[hlen]at c1 hlv hn
   have b0:Boxed (w3of w j) w.heap.size 3 (.int .i64 (j:Int)):=((Boxed.new w 3 _).alloc _).alloc _
   have b1:Boxed (w3of w j) (w.heap.size+1) 9 (.string ByteArray.empty):=by
    have:=(Boxed.new (w.alloc (.cells #[.int .i64 (j:Int)] 3)) 9 (.string ByteArray.empty)).alloc (.cells #[.int .i64 0] 44)
    rwa [World.size_alloc]at this
   have b2:Boxed (w3of w j) (w.heap.size+1+1) 44 (.int .i64 0):=by
    have:=Boxed.new ((w.alloc (.cells #[.int .i64 (j:Int)] 3)).alloc (.cells #[.string ByteArray.empty] 9)) 44 (.int .i64 0)
    rwa [World.size_alloc,World.size_alloc]at this
   have hs3:(w3of w j).heap.size=w.heap.size+3:=by unfold w3of;simp
   have b3:Boxed ((w3of w j).alloc (.cells #[.slice a les.length cp] 120)) (w.heap.size+1+1+1) 120 (.slice a les.length cp):=by
    have:=Boxed.new (w3of w j) 120 (.slice a les.length cp)
    rwa [hs3]at this
   have b0:=b0.alloc (.cells #[.slice a les.length cp] 120)
   have b1:=b1.alloc (.cells #[.slice a les.length cp] 120)
   have b2:=b2.alloc (.cells #[.slice a les.length cp] 120)
   have hw0:NewMem w ((w3of w j).alloc (.cells #[.slice a les.length cp] 120)):=(w3of_new w j).trans (NewMem.alloc _ _)
   have hd0:DrumAt ((w3of w j).alloc (.cells #[.slice a les.length cp] 120)) b sb cap (.slice a les.length cp) D:=by
    have:=h.kept (F:=fun _=>False) (Mod.of_below hw0) (fun _ _=>id);rwa [hlv]at this
   have hz0:((w3of w j).alloc (.cells #[.slice a les.length cp] 120)).heap.size=w.heap.size+4:=by rw[World.size_alloc,hs3]
   obtain⟨W0,hW0⟩:∃ W0,(w3of w j).alloc (.cells #[.slice a les.length cp] 120)=W0:=⟨_,rfl⟩
   rw[hW0]at b0 b1 b2 b3 hw0 hd0 hz0
   unfold w3of at hW0
   have hin:LooseIn W0.heap.size W0 (.slice a les.length cp) les:=hd0.loose_in hles (Nat.le_refl _)
   have HW0:=Lib.hid hW0
   have B0:=Lib.hid b0
   have B1:=Lib.hid b1
   have B2:=Lib.hid b2
   have B3:=Lib.hid b3
   have HW:=Lib.hid hw0
   have HD0:=Lib.hid hd0
   have HZ:=Lib.hid hz0
   have HIN:=Lib.hid hin
   have HLES:=Lib.hid hles
   have HJ:=Lib.hid hj
   have HN:=Lib.hid hn
   clear cm ch hlv b0 b1 b2 b3 hw0 hd0 hz0 hin hW0 h3 h hn hr hles hs3 hlen hj
   refine(callsIn_wide (n:=30)).1 ?_
   refine callsIn_of_wp_marks Tryz.func189 rfl trivial ?_ rfl
   simp only[Tryz.ntmps189,List.size_toArray,List.length_cons,List.length_nil,Nat.reduceAdd,Nat.reduceSub,Array.replicate_succ,Array.replicate_zero,List.push_toArray,List.append_toArray,List.nil_append,List.cons_append]
   gi_wp2_with (first
    | (refine⟨trivial,?_⟩;gi_at_call 66;refine(callsIn_wide.2 CM.out).mono ?_;rintro e w' ⟨rfl,rfl⟩;unfold w3of)
    | (refine⟨trivial,?_⟩;gi_at_call 161;refine(callsIn_wide.2 CH.out).mono ?_;rintro e w' ⟨rfl,rfl⟩;unfold w3of)
    | (refine⟨trivial,?_⟩;gi_at_call 203;refine(back_in Fence.wide _ trivial rfl _ _ _ _).mono ?_;rintro e w' ⟨rfl,rfl⟩))
   rw[HW0.out]
   refine wpIn_rangeFunc_ownH rfl (by decide) (gf:=212) (lb:=#[.pointer (some ⟨w.heap.size+1+1+1,0,none⟩)]) rfl trivial (enters_of Tryz.func212 (by kernel_rfl) rfl)
    (back_stops Fence.wide (30 - 1) trivial rfl (by decide) (w.heap.size+1+1+1) W0.heap.size _ les HN.out W0 (by have:=HZ.out;omega) (Nat.le_refl _) B3.out.cell HIN.out) belowK_t (belowK_b (Nat.le_refl _)) (Below.refl _ _) (by intro x;rfl)
    (fun pre W=>(∀ p∈pre,p.2.1.1≠j)∧Below W0.heap.size W0 W)
    (fun c pre W=>(c = .ret∧∃ (ini:List (Nat × LE)) (last:Nat × LE),pre=ini ++ [last]∧(∀ p∈ini,p.2.1.1≠j)∧last.2.1.1=j∧W.heap[w.heap.size+1]? = some (.cells #[.string ⟨last.2.1.2.toArray⟩] 9 (0,0))∧W.heap[w.heap.size+1+1]? = some (.cells #[.int .i64 0] 44 (0,0)))∧Below w.heap.size w W)
    (OwnFrom.and (ownFrom_pure _ _) (ownFrom_below (Nat.le_refl _) (Nat.le_refl _)))
    (fun c=>OwnFrom.and (fun s A B row hs hg hr=>by
     obtain⟨hc,ini,last,e1,e2,e3,e4,e5⟩:=hs
     exact⟨hc,ini,last,e1,e2,e3,block_own _ _ _ _ W0.heap.size () A B row e4 hg hr,block_own _ _ _ _ W0.heap.size () A B row e5 hg hr⟩) (ownFrom_below (Nat.le_refl _) (by have:=HZ.out;omega)))
    ⟨by simp,Below.refl _ _⟩
    (fun x a' W=>∃ Bx,W0.heap.size≤Bx∧W.heap[Bx]? = some (.cells (looseCell x.2.1).toArray 182 (0,0))∧a' = { tmps:=#[Value.pointer (some { block:=b,off:=0 }),Value.int IntKind.i64 j,undef,Value.pointer (some { block:=w.heap.size,off:=0 }),Value.pointer (some { block:=w.heap.size+1,off:=0 }),Value.pointer (some { block:=w.heap.size+1+1,off:=0 }),undef,Value.pointer (some { block:=Bx,off:=0 }),Value.bool false,Value.pointer (some { block:=b,off:=0 }),Value.bool true,Value.bool false,Value.bool false,Value.pointer (some { block:=b,off:=0 }),Value.pointer (some { block:=b,off:=0 }),Value.pointer (some { block:=b,off:=4 }),Value.bool false,Value.bool false,Value.pointer (some { block:=b,off:=0 }),Value.int IntKind.i64 j,Value.bool true,Value.bool false,Value.pointer (some { block:=b,off:=0 }),Value.pointer (some { block:=b,off:=0 }),Value.pointer (some { block:=b,off:=1 }),Value.slice a les.length cp,Value.func (Fn.func 212) #[] #[Value.pointer (some { block:=w.heap.size+1+1+1,off:=0 })],.int .i64 (x.1:Int),.agg (looseCell x.2.1).toArray,undef,undef,undef,undef,undef,undef,undef,undef,undef,undef,undef,undef,undef,undef,undef],defers:=[] })
    (fun x a' s X Y row hs hg hr=>by obtain⟨Bx,h1,h2,h3⟩:=hs;exact⟨Bx,h1,block_own _ _ _ _ W0.heap.size () X Y row h2 hg hr,h3⟩)
    ?assign ?body ?done ?stop
   case assign=>
    rintro l pre x W K ⟨hne,hB⟩ hK
    have hql:=looseCell_len x.2.1 x.2.2
    have hqz2:(Tryz.prog.info? 182).map (·.size)=some (looseCell x.2.1).toArray.size:=by rw[List.size_toArray,hql];exact info_looseb
    have hq1:(looseCell x.2.1).toArray.all (·.oneCell')=true:=all_oneCell_toArray (loose_one x.2.1.2 x.2.1.1)
    have hzq:Tryz.zeroCells182.size=(looseCell x.2.1).toArray.size:=by rw[zero_loose];simp[hql]
    have HQZ2:=Lib.hid hqz2
    have HQ1:=Lib.hid hq1
    have HZQ:=Lib.hid hzq
    have HNE:=Lib.hid hne
    have HB:=Lib.hid hB
    have HK:=Lib.hid hK
    clear hqz2 hq1 hzq hql hne hB hK
    unfold encLE
    gi_wp2_with (refine wpListIn_skipped rfl (fun _ h=>by cases h) rfl (exec_store_row 182 _ _ rfl W.heap.size (looseCell x.2.1).toArray rfl rfl 182 _ (heap_alloc_last _ _) HQZ2.out HZQ.out HQ1.out) ?_;rw[World.setRow_alloc_new])
    exact HK.out _ _ ((KeepsOthers.alloc _ _).from _) ((Below.refl _ W).alloc HB.out.size _) ⟨HNE.out,HB.out.alloc HB.out.size _⟩ ⟨W.heap.size,HB.out.size,heap_alloc_last _ _,rfl⟩
   case body=>
    rintro l pre ⟨xi,⟨⟨qi,s⟩,hq⟩⟩ a' W hl ⟨r,hr⟩ ⟨hne,hB⟩ ⟨Bx,hBx,hcell,rfl⟩ hlt
    have hlen:s.length=64:=hq
    have c64:W.cell? ⟨Bx,64,none⟩=some (.int .i64 (qi:Int)):=by rw[cell_of_row _ _ _ _ _ _ hcell];simp[looseCell,secCells_len,hlen]
    have ci:W.cell? ⟨w.heap.size,0,none⟩=some (.int .i64 (j:Int)):=(hB.cell (p:=⟨w.heap.size,0,none⟩) (by have:=HZ.out;show w.heap.size < _;omega)).trans B0.out.cell
    have hra:W.rangeAt Bx 0 (secCells s):=range_of_block hcell (by simp[looseCell])
    have hsz:(Tryz.prog.info? 180).map (·.size)=some (secCells s).length:=by rw[secCells_len,hlen];exact info_secb
    have HRA:=Lib.hid hra
    have HSZ:=Lib.hid hsz
    have HNE:=Lib.hid hne
    have HB:=Lib.hid hB
    have HLEN:=Lib.hid hlen
    clear hra hsz hne hB hcell hlen hr
    by_cases hx:qi=j
    ·subst hx
     have bb:∀ W2,NewMem W W2→Boxed W2 (w.heap.size+1) 9 (.string ByteArray.empty)∧Boxed W2 (w.heap.size+1+1) 44 (.int .i64 0):=fun W2 h2=>by
      have hz:=HZ.out
      have hb2:Below W0.heap.size W0 W2:=HB.out.trans (h2.mono HB.out.size)
      exact⟨(hb2.block _ (by omega)).trans B1.out,(hb2.block _ (by omega)).trans B2.out⟩
     have BB:=Lib.hid bb
     clear bb
     gi_wp2_with (first
      | (refine wpListIn_value rfl (fun _ h=>by cases h) rfl (exec_load_mid 180 _ rfl Bx 0 rfl (secCells s) _ HRA.out Tryz.underlying180 rfl HSZ.out) ?_)
      | (refine⟨trivial,?_⟩;gi_at_call 204;refine(CallsIn.inRound l (callsIn_wide.2 (text_any s HLEN.out _))).mono ?_;rintro e W2 ⟨rfl,hnm⟩;have k1:=(BB.out W2 hnm).1.cell;have k2:=(BB.out W2 hnm).1.frozen;have k3:=(BB.out W2 hnm).2.cell;have k4:=(BB.out W2 hnm).2.frozen;have HNM:=Lib.hid hnm;clear hnm))
     have hnm:=HNM.out
     have hz:=HZ.out
     have hB2:Below w.heap.size w W2:=Below.trans HW.out (Below.trans (HB.out.mono (by omega)) (Below.mono hnm (by have:=HB.out.size;omega)))
     have kf:KeepsFrom W0.heap.size W ((W2.setCell ⟨w.heap.size+1,0,none⟩ (.string ⟨s.toArray⟩)).setCell ⟨w.heap.size+1+1,0,none⟩ (.int .i64 0)):=
      (((KeepsOthers.of_new hnm).trans (KeepsOthers.setCell _ _ _)).trans (KeepsOthers.setCell _ _ _)).from _
     have x1:Boxed ((W2.setCell ⟨w.heap.size+1,0,none⟩ (.string ⟨s.toArray⟩)).setCell ⟨w.heap.size+1+1,0,none⟩ (.int .i64 0)) (w.heap.size+1) 9 (.string ⟨s.toArray⟩):=
      ((BB.out W2 hnm).1.set _).other (by omega) _
     have x2:Boxed ((W2.setCell ⟨w.heap.size+1,0,none⟩ (.string ⟨s.toArray⟩)).setCell ⟨w.heap.size+1+1,0,none⟩ (.int .i64 0)) (w.heap.size+1+1) 44 (.int .i64 0):=
      ((BB.out W2 hnm).2.other (by omega) _).set _
     exact⟨kf,⟨rfl,pre,_,rfl,HNE.out,rfl,x1,x2⟩,(hB2.setCell (p:=⟨w.heap.size+1,0,none⟩) (by simp) _).setCell (p:=⟨w.heap.size+1+1,0,none⟩) (by simp;omega) _⟩
    ·gi_wp2
     refine⟨KeepsFrom.refl _ _,Below.refl _ _,fun p hp=>?_,HB.out⟩
     rcases List.mem_append.1 hp with hp | hp
     ·exact HNE.out p hp
     ·rw[List.mem_singleton.1 hp];exact hx
   case done=>
    rintro D' ys W hD rfl ⟨hne,hB⟩ hK
    have hz:=HZ.out
    have hnf:=comes_none les j hne
    rw[← HLES.out]at hnf
    have hsh:D.shows j=D.sure.getD j []:=by unfold DS.shows;rw[hnf]
    have hs:D.sure[j]? = some (D.sure.getD j []):=by simp[List.getElem?_eq_getElem HJ.out]
    obtain⟨s,hsd⟩:∃ s,s=D.sure.getD j []:=⟨_,rfl⟩
    rw[← hsd]at hs
    have hrs:res=s:=by rw[HRES.out,hsh,hsd]
    have HRS:=Lib.hid hrs
    clear hrs
    have hdW:DrumAt W b sb cap (.slice a les.length cp) D:=HD0.out.kept (F:=fun _=>False) (Mod.of_below hB) (fun _ _=>id)
    have hw64:=hdW.wsure s (List.mem_of_getElem? hs)
    have hsz:(Tryz.prog.info? 180).map (·.size)=some (secCells s).length:=by rw[secCells_len,hw64];exact info_secb
    have HDW:=Lib.hid hdW
    have HS:=Lib.hid hs
    have HW64:=Lib.hid hw64
    have HSZ:=Lib.hid hsz
    have HB:=Lib.hid hB
    have HK:=Lib.hid hK
    clear hne hnf hsh hsd hdW hw64 hsz hs hB hK hz
    gi_wp2
    refine wpIn_wide.2 ?_
    have far:∀ W',NewMem W W'→DrumAt W' b sb cap (.slice a les.length cp) D∧Boxed W' w.heap.size 3 (.int .i64 (j:Int))∧Boxed W' (w.heap.size+1) 9 (.string ByteArray.empty)∧Boxed W' (w.heap.size+1+1) 44 (.int .i64 0)∧W'.heap[D']? = some (.deferred (some [])):=fun W' h=>by
     have hz:=HZ.out
     have hb2:Below W0.heap.size W0 W':=HB.out.trans (h.mono HB.out.size)
     exact⟨HDW.out.kept (F:=fun _=>False) (Mod.of_below h) (fun _ _=>id),(hb2.block _ (by omega)).trans B0.out,(hb2.block _ (by omega)).trans B1.out,(hb2.block _ (by omega)).trans B2.out,(h.block _ (Array.getElem?_eq_some_iff.1 HK.out).1).trans HK.out⟩
    have FAR:=Lib.hid far
    clear far
    refine' wp_region_facts (S:=(fun W'=>NewMem W W')) (R:=NewMem) [eqF _ _,eqF _ _,eqF _ _,eqF _ (.slice (some ⟨sb,0,none⟩) D.sure.length cap),eqF _ (.int .i64 (j:Int)),eqF _ (.pointer (some ⟨sb,j * 64,none⟩)),eqF _ (.agg (secCells s).toArray),eqF _ (.string ⟨s.toArray⟩)] (by kernel_rfl) (by kernel_rfl) ?hS ?h0 (Ord.steps_cons ?s0 (Ord.steps_cons ?s1 (Ord.steps_cons ?s2 (Ord.steps_cons ?s3 (Ord.steps_cons ?s4 (Ord.steps_cons ?s5 (Ord.steps_cons ?s6 (Ord.steps_cons ?s7 (Ord.steps_nil))))))))) ?fin
    case s0=>
     intro g W hSW hd
     try simp only[Nat.zero_add,Nat.reduceAdd]at hd ⊢
     with_reducible refine OpGives.pre_reads [] 44 ?_ ?_ ?_
     ·rfl
     ·kernel_rfl
     simp only[List.map_cons,List.map_nil]
     refine OpGives.val (w':=W) ?_ ⟨NewMem.refl _,rfl⟩
     go_simp
     try with_reducible rfl
    case s1=>
     intro g W hSW hd
     try simp only[Nat.zero_add,Nat.reduceAdd]at hd ⊢
     have h0:g 0=_:=hd 0 (by decide) (by kernel_rfl)
     with_reducible refine OpGives.pre_reads [(36,0)] 44 ?_ ?_ ?_
     ·rfl
     ·kernel_rfl
     simp only[List.map_cons,List.map_nil]
     refine OpGives.val (w':=W) ?_ ⟨NewMem.refl _,rfl⟩
     go_simp
     try with_reducible rfl
    case s2=>
     intro g W hSW hd
     try simp only[Nat.zero_add,Nat.reduceAdd]at hd ⊢
     have h1:g 1=_:=hd 1 (by decide) (by kernel_rfl)
     with_reducible refine OpGives.pre_reads [(37,1)] 44 ?_ ?_ ?_
     ·rfl
     ·kernel_rfl
     simp only[List.map_cons,List.map_nil]
     refine OpGives.val (w':=W) ?_ ⟨NewMem.refl _,rfl⟩
     go_simp
     try with_reducible rfl
    case s3=>
     intro g W hSW hd
     try simp only[Nat.zero_add,Nat.reduceAdd]at hd ⊢
     have h2:g 2=_:=hd 2 (by decide) (by kernel_rfl)
     with_reducible refine OpGives.pre_reads [(38,2)] 44 ?_ ?_ ?_
     ·rfl
     ·kernel_rfl
     simp only[List.map_cons,List.map_nil]
     have c0:=(FAR.out W hSW).1.cell.cells.1;refine OpGives.val (w':=W) ?_ ⟨NewMem.refl _,rfl⟩;go_simp
    case s4=>
     intro g W hSW hd
     try simp only[Nat.zero_add,Nat.reduceAdd]at hd ⊢
     with_reducible refine OpGives.pre_reads [] 44 ?_ ?_ ?_
     ·rfl
     ·kernel_rfl
     simp only[List.map_cons,List.map_nil]
     have c0:=(FAR.out W hSW).2.1.cell;refine OpGives.val (w':=W) ?_ ⟨NewMem.refl _,rfl⟩;go_simp
    case s5=>
     intro g W hSW hd
     try simp only[Nat.zero_add,Nat.reduceAdd]at hd ⊢
     have h3:g 3=_:=hd 3 (by decide) (by kernel_rfl)
     have h4:g 4=_:=hd 4 (by decide) (by kernel_rfl)
     with_reducible refine OpGives.pre_reads [(39,3),(40,4)] 44 ?_ ?_ ?_
     ·rfl
     ·kernel_rfl
     simp only[List.map_cons,List.map_nil]
     have hb:=HJ.out;refine OpGives.val (w':=W) ?_ ⟨NewMem.refl _,rfl⟩;go_simp
    case s6=>
     intro g W hSW hd
     try simp only[Nat.zero_add,Nat.reduceAdd]at hd ⊢
     have h5:g 5=_:=hd 5 (by decide) (by kernel_rfl)
     with_reducible refine OpGives.pre_reads [(41,5)] 44 ?_ ?_ ?_
     ·rfl
     ·kernel_rfl
     simp only[List.map_cons,List.map_nil]
     refine OpGives.val (w':=W) (exec_load_mid 180 _ rfl sb (j * 64) ?_ (secCells s) _ ((FAR.out W hSW).1.sure_at HS.out) Tryz.underlying180 rfl HSZ.out) ⟨NewMem.refl _,rfl⟩;(rw[h5];simp[rdl_cons])
    case s7=>
     intro g W hSW hd
     try simp only[Nat.zero_add,Nat.reduceAdd]at hd ⊢
     have h6:g 6=_:=hd 6 (by decide) (by kernel_rfl)
     with_reducible refine OpGives.pre_reads [(42,6)] 44 ?_ ?_ ?_
     ·rfl
     ·kernel_rfl
     simp only[List.map_cons,List.map_nil]
     refine OpGives.call (f:=204) (args:=#[.agg (secCells s).toArray]) (w':=W) (by go_simp) ((text_any s HW64.out W).mono fun e w' ⟨he,hn⟩=>⟨_,he,hn,rfl⟩)
    case hS=>exact fun a b h k=>NewMem.trans h k
    case h0=>exact bdN' (n:=1) (Below.refl _ _)
    case fin=>
     intro v W' hSW hf
     have h7:v 7=_:=hf 7 (Nat.lt_of_lt_of_eq (by decide:7 < 8) rfl)
     clear hf
     generalize hF:Ord.pre _ _ v _=F
     rw[Ord.pre_lit [some 36,some 37,some 38,some 39,some 40,some 41,some 42,some 43]
      (by kernel_rfl)]at hF
     simp only[Ord.puts,Nat.zero_add,Nat.reduceAdd]at hF
     subst hF
     rw[h7]
     clear h7
     obtain⟨_,_,x1,x2,x3⟩:=FAR.out W' hSW
     have c1:=x1.cell
     have f1:=x1.frozen
     have c2:=x2.cell
     have f2:=x2.frozen
     have y1:Boxed ((W'.setCell ⟨w.heap.size+1,0,none⟩ (.string ⟨s.toArray⟩)).setCell ⟨w.heap.size+1+1,0,none⟩ (.int .i64 0)) (w.heap.size+1) 9 (.string ⟨s.toArray⟩):=(x1.set _).other (by omega) _
     have y2:Boxed ((W'.setCell ⟨w.heap.size+1,0,none⟩ (.string ⟨s.toArray⟩)).setCell ⟨w.heap.size+1+1,0,none⟩ (.int .i64 0)) (w.heap.size+1+1) 44 (.int .i64 0):=(x2.other (by omega) _).set _
     have y3:((W'.setCell ⟨w.heap.size+1,0,none⟩ (.string ⟨s.toArray⟩)).setCell ⟨w.heap.size+1+1,0,none⟩ (.int .i64 0)).heap[D']? = some (.deferred (some [])):=
      ((KeepsOthers.setCell _ _ _).trans (KeepsOthers.setCell _ _ _)).same D' _ x3 rfl
     have y4:Below w.heap.size w ((W'.setCell ⟨w.heap.size+1,0,none⟩ (.string ⟨s.toArray⟩)).setCell ⟨w.heap.size+1+1,0,none⟩ (.int .i64 0)):=by
      have hz:=HZ.out
      have:Below w.heap.size w W':=Below.trans HW.out ((HB.out.trans (Below.mono hSW HB.out.size)).mono (by omega))
      exact(this.setCell (p:=⟨w.heap.size+1,0,none⟩) (by simp) _).setCell (p:=⟨w.heap.size+1+1,0,none⟩) (by simp;omega) _
     have Y1:=Lib.hid y1
     have Y2:=Lib.hid y2
     have Y3:=Lib.hid y3
     have Y4:=Lib.hid y4
     clear y1 y2 y3 y4 x3
     refine any_one (i:=8) (by kernel_rfl) ?_
     refine wpOp_skip (w':=W'.setCell ⟨w.heap.size+1,0,none⟩ (.string ⟨s.toArray⟩)) rfl rfl (by go_simp) ?_
     refine any_one (i:=9) (by kernel_rfl) ?_
     refine wpOp_skip (w':=(W'.setCell ⟨w.heap.size+1,0,none⟩ (.string ⟨s.toArray⟩)).setCell ⟨w.heap.size+1+1,0,none⟩ (.int .i64 0)) rfl rfl (by go_simp) ?_
     refine wpAny_done (by kernel_rfl) ?_ _
     simp only[List.getElem_toArray,List.getElem_cons_succ,List.getElem_cons_zero]
     go_frame
     clear c1 c2 f1 f2 x1 x2
     generalize (W'.setCell ⟨w.heap.size+1,0,none⟩ (.string ⟨s.toArray⟩)).setCell ⟨w.heap.size+1+1,0,none⟩ (.int .i64 0)=W2 at *
     gi_wp2
     have hK:=Y3.out
     refine⟨by simp,.inl ⟨_,_,rfl,run_takeDeferred hK,?_⟩⟩
     have hz:=HZ.out
     have hg:=grownBy_putObj' W2 D' (.deferred none)
     have q1:=Boxed.kept (row:=some D') Y1.out hg (by simp;omega)
     have q2:=Boxed.kept (row:=some D') Y2.out hg (by simp;omega)
     have c1:=q1.cell
     have c2:=q2.cell
     refine⟨.tuple #[.string ⟨s.toArray⟩,.int .i64 0],?_,by rw[HRS.out],Y4.out.trans (belowK_b (w:=w) (Nat.le_refl _) W2 D' _ _ (by omega) hK rfl rfl)⟩
     simp[results,Tryz.f189,go_sem,c1,c2]
   case stop=>
    rintro D' c pre W hD ⟨k,hk,rfl⟩ ⟨⟨rfl,ini,last,e1,e2,e3,hs1,hs2⟩,hB⟩ hK
    have hz:=HZ.out
    obtain⟨k',rfl⟩:∃ k',k=k'+1:=by
     cases k with
     | zero=>simp[comes]at e1
     | succ k'=>exact⟨k',rfl⟩
    rw[comes_succ]at e1
    obtain⟨rfl,e5⟩:=List.append_inj' e1 rfl
    have e6:=(List.cons.inj e5).1
    subst e6
    have hf:=comes_find les j k' (by omega) e2 e3
    rw[← HLES.out]at hf
    have hsh:D.shows j=(les.getD (les.length - 1 - k') LE.zero).1.2:=by unfold DS.shows;rw[hf]
    have hrs:=HRES.out.trans hsh
    gi_wp2
    refine⟨by simp,.inl ⟨_,_,rfl,run_takeDeferred hK,?_⟩⟩
    have hg:=grownBy_putObj' W D' (.deferred none)
    have q1:Boxed (W.putObj D' (.deferred none)) (w.heap.size+1) 9 (.string ⟨(les.getD (les.length - 1 - k') LE.zero).1.2.toArray⟩):=Boxed.kept (row:=some D') hs1 hg (by simp;omega)
    have q2:Boxed (W.putObj D' (.deferred none)) (w.heap.size+1+1) 44 (.int .i64 0):=Boxed.kept (row:=some D') hs2 hg (by simp;omega)
    have c1:=q1.cell
    have c2:=q2.cell
    refine⟨.tuple #[.string ⟨(les.getD (les.length - 1 - k') LE.zero).1.2.toArray⟩,.int .i64 0],?_,by simp,hB.trans (belowK_b (w:=w) (Nat.le_refl _) W D' _ _ (by omega) hK rfl rfl)⟩
    simp[results,Tryz.f189,go_sem,c1,c2]
  ·rw[if_neg hr]
   rw[decide_eq_false hr]at ch
   have CH:=Lib.hid ch
   clear h h3 cm ch
   refine(callsIn_wide (n:=3)).1 ?_
   refine callsIn_of_wp_marks Tryz.func189 rfl trivial ?_ rfl
   simp only[Tryz.ntmps189,List.size_toArray,List.length_cons,List.length_nil,Nat.reduceAdd,Nat.reduceSub,Array.replicate_succ,Array.replicate_zero,List.push_toArray,List.append_toArray,List.nil_append,List.cons_append]
   gi_wp2_with (first
    | (refine⟨trivial,?_⟩;gi_at_call 66;refine(callsIn_wide.2 CM.out).mono ?_;rintro e w' ⟨rfl,rfl⟩;unfold w3of)
    | (refine⟨trivial,?_⟩;gi_at_call 161;refine(callsIn_wide.2 CH.out).mono ?_;rintro e w' ⟨rfl,rfl⟩;unfold w3of))
   refine⟨.tuple #[.string ⟨([]:List UInt8).toArray⟩,.int .i64 6],by simp[results,Tryz.f189,go_sem],rfl,?_⟩
   exact((NewMem.alloc _ _).trans (NewMem.alloc _ _)).trans (NewMem.alloc _ _)
end Go.Proofs.YtlmabbigfdbmbaaGreatDoor.Drum
namespace Go.Proofs.YtlmabbigfdbmbaaGreatDoor.Drum
open Go.RowKit Go.Proofs.YtlmabbigfdbmbaaGreatDoor.Ord Go.Proofs.YtlmabbigfdbmbaaGreatDoorW.PrintWords Go.Proofs.YtlmabbigfdbmbaaGreatDoor.Base
attribute [local go_sem] rdl_const rdl_func rdl_global rdl_nil rdl_cons
theorem wpList_value{P:Program}{ops:Array Oper}{Q:Exit→Act→World→Prop}{a:Act}{w w':World}{rest:List Oper}{o:Oper}{v:Value}(hg:o.guard=none)(hr:(execOp a.eval o).run P w = .ok (.value v) w')(h:wpList P ops Q rest (a.put o.dst v) w'):wpList P ops Q (o :: rest) a w:=
 wpList_plain hg fun K hK=>by unfold Oper.wp;rw[hr];exact hK _ _ h
end Go.Proofs.YtlmabbigfdbmbaaGreatDoor.Drum
namespace Go.Proofs.YtlmabbigfdbmbaaGreatDoor.Drum
open Go.RowKit Go.Proofs.YtlmabbigfdbmbaaGreatDoor.Ord Go.Proofs.YtlmabbigfdbmbaaGreatDoorW.PrintWords Go.Proofs.YtlmabbigfdbmbaaGreatDoor.Base
structure Thing where
 P:World→Prop
 F:Nat→Prop
 kept:∀ (W W':World) (G:Nat→Prop),P W→Mod G W W'→(∀ k,F k→¬ G k)→P W'
 lt:∀ (W:World),P W→∀ k,F k→k < W.heap.size
def Thing.apart(a b:Thing):Prop:=∀ k,a.F k→¬ b.F k
structure Sep(B:Nat)(w W:World)(l:List Thing):Prop where
 below:Below B w W
 le:B≤W.heap.size
 all:∀ t∈l,t.P W∧∀ k,t.F k→B≤k
 apart:l.Pairwise Thing.apart
theorem Sep.start(w:World):Sep w.heap.size w w []:=⟨Below.refl _ _,Nat.le_refl _,fun _ h=>(by cases h),List.Pairwise.nil⟩
theorem Sep.turn{B:Nat}{w W W':World}{t t':Thing}{l:List Thing}(h:Sep B w W (t :: l))(hm:Mod t.F W W')(ht:t'.P W')(hF:∀ k,t'.F k→t.F k∨W.heap.size≤k):Sep B w W' (t' :: l):=by
 have hp:=List.pairwise_cons.1 h.apart
 have h0:=h.all t List.mem_cons_self
 refine⟨h.below.trans (hm.below h.le h0.2),Nat.le_trans h.le hm.size,fun x hx=>?_,List.pairwise_cons.2 ⟨fun y hy k hk hy'=>?_,hp.2⟩⟩
 ·rcases List.mem_cons.1 hx with rfl | hx
  ·exact⟨ht,fun k hk=>by rcases hF k hk with e | e;exact h0.2 k e;exact Nat.le_trans h.le e⟩
  ·have:=h.all x (List.mem_cons_of_mem _ hx)
   exact⟨x.kept _ _ _ this.1 hm (fun k hk hk'=>hp.1 x hx k hk' hk),this.2⟩
 ·have hy0:=h.all y (List.mem_cons_of_mem _ hy)
  rcases hF k hk with e | e
  ·exact hp.1 y hy k e hy'
  ·have:=y.lt _ hy0.1 k hy';omega
theorem Sep.new{B:Nat}{w W W':World}{t:Thing}{l:List Thing}(h:Sep B w W l)(hn:NewMem W W')(ht:t.P W')(hF:∀ k,t.F k→W.heap.size≤k):Sep B w W' (t :: l):=by
 refine⟨h.below.trans (hn.mono h.le),Nat.le_trans h.le hn.size,fun x hx=>?_,List.pairwise_cons.2 ⟨fun y hy k hk hy'=>?_,h.apart⟩⟩
 ·rcases List.mem_cons.1 hx with rfl | hx
  ·exact⟨ht,fun k hk=>Nat.le_trans h.le (hF k hk)⟩
  ·have:=h.all x hx
   exact⟨x.kept _ _ (fun _=>False) this.1 (Mod.of_below hn) (fun _ _=>id),this.2⟩
 ·have:=y.lt _ (h.all y hy).1 k hy'
  have:=hF k hk;omega
theorem Sep.grown{B:Nat}{w W W':World}{l:List Thing}(h:Sep B w W l)(hn:NewMem W W'):Sep B w W' l:=
 ⟨h.below.trans (hn.mono h.le),Nat.le_trans h.le hn.size,fun x hx=>⟨x.kept _ _ (fun _=>False) (h.all x hx).1 (Mod.of_below hn) (fun _ _=>id),(h.all x hx).2⟩,h.apart⟩
theorem Thing.apart_symm{a b:Thing}(h:a.apart b):b.apart a:=fun k hb ha=>h k ha hb
theorem Sep.perm{B:Nat}{w W:World}{l l':List Thing}(h:Sep B w W l)(hp:l.Perm l'):Sep B w W l':=
 ⟨h.below,h.le,fun t ht=>h.all t (hp.mem_iff.2 ht),hp.pairwise h.apart Thing.apart_symm⟩
theorem Sep.swap{B:Nat}{w W:World}{a b:Thing}{l:List Thing}(h:Sep B w W (a :: b :: l)):Sep B w W (b :: a :: l):=h.perm (List.Perm.swap b a l)
theorem Sep.tail{B:Nat}{w W:World}{a:Thing}{l:List Thing}(h:Sep B w W (a :: l)):Sep B w W l:=
 ⟨h.below,h.le,fun t ht=>h.all t (List.mem_cons_of_mem _ ht),(List.pairwise_cons.1 h.apart).2⟩
theorem Sep.drewN{B:Nat}{w W:World}{l:List Thing}(h:Sep B w W l)(n:Nat):Sep B w (W.drewN n) l:=h.grown (bdN' (Below.refl _ _))
theorem Sep.drew{B:Nat}{w W:World}{l:List Thing}(h:Sep B w W l):Sep B w W.drew l:=h.drewN 1
def drumT(b sb cap:Nat)(lv:Value)(D:DS):Thing where
 P:=fun W=>DrumAt W b sb cap lv D
 F:=foot b sb lv
 kept:=fun W W' G h hm hG=>h.kept hm hG
 lt:=fun W h k hk=>by
  rcases hk with rfl | rfl | hk
  ·exact h.cell.lt
  ·exact(h.sure.lt _ rfl).2
  ·exact(h.loose.lt k hk).2
def IsDrum(b:Nat)(D:DS)(t:Thing):Prop:=∃ sb cap lv,t=drumT b sb cap lv D
def Turned(B:Nat)(w:World)(l:List Thing)(b:Nat)(r:Int × DS)(e:Ending)(W':World):Prop:=∃ t,e = .returned (.int .i64 r.1)∧IsDrum b r.2 t∧Sep B w W' (t :: l)
theorem Turned.of_did{B:Nat}{w W W':World}{l:List Thing}{b sb cap:Nat}{lv:Value}{D:DS}{r:Int × DS}{e:Ending}(h:Sep B w W (drumT b sb cap lv D :: l))(hd:Did W b sb cap lv r e W'):Turned B w l b r e W':=by
 obtain⟨lv',he,hat,hlv,hm⟩:=hd
 refine⟨drumT b sb cap lv' r.2,he,⟨_,_,_,rfl⟩,h.turn hm hat (fun k hk=>?_)⟩
 rcases hk with rfl | rfl | hk
 ·exact .inl (.inl rfl)
 ·exact .inl (.inr (.inl rfl))
 ·rcases hlv k hk with e | e
  ·exact .inl (.inr (.inr e))
  ·exact .inr e
section
variable{B:Nat}{w W:World}{l:List Thing}{b:Nat}{D:DS}{t:Thing}
theorem write_sep(h:Sep B w W (t :: l))(ht:IsDrum b D t)(i:Int)(s:ByteArray)(hs:s.size≤1000000)(hn:D.loose.length≤1000000) :
  Calls Tryz.prog 128 #[.pointer (some ⟨b,0,none⟩),.int .i64 i,.string s] W (Turned B w l b (D.write i s.data.toList)):=by
 obtain⟨sb,cap,lv,rfl⟩:=ht
 exact(write_at b sb cap lv D i s W (h.all _ List.mem_cons_self).1 hs hn).mono fun e W' hd=>Turned.of_did h hd
theorem settle_sep(h:Sep B w W (t :: l))(ht:IsDrum b D t)(hn:D.loose.length≤1000000) :
  Calls Tryz.prog 130 #[.pointer (some ⟨b,0,none⟩)] W (Turned B w l b D.settle):=by
 obtain⟨sb,cap,lv,rfl⟩:=ht
 exact(settle_at b sb cap lv D W (h.all _ List.mem_cons_self).1 hn).mono fun e W' hd=>Turned.of_did h hd
def Made(B:Nat)(w:World)(l:List Thing)(D:DS)(v:Value)(W':World):Prop:=∃ b t,v = .pointer (some ⟨b,0,none⟩)∧IsDrum b D t∧Sep B w W' (t :: l)
theorem new_sep(h:Sep B w W l)(n:Nat)(h0:0 < n)(hn:n≤4096) :
  Calls Tryz.prog 25 #[.int .i64 (n:Int)] W fun e W'=>∃ v,e = .returned (.tuple #[v,.int .i64 0])∧Made B w l (DS.zero n) v W':=by
 refine(new_ok n h0 hn W).mono fun e W' ⟨b',sb',cap',he,h1,h2,hd,hm⟩=>?_
 refine⟨_,he,b',drumT b' sb' cap' (.slice none 0 0) (DS.zero n),rfl,⟨_,_,_,rfl⟩,h.new hm hd (fun k hk=>?_)⟩
 rcases hk with rfl | rfl | hk
 ·exact h1
 ·exact h2
 ·simp[Value.ownBlock]at hk
end
end Go.Proofs.YtlmabbigfdbmbaaGreatDoor.Drum
namespace Go.Proofs.YtlmabbigfdbmbaaGreatDoor.Shelf
open Go.RowKit Go.Proofs.YtlmabbigfdbmbaaGreatDoor.Ord Go.Proofs.YtlmabbigfdbmbaaGreatDoorW.PrintWords Go.Proofs.YtlmabbigfdbmbaaGreatDoor.Base Go.Proofs.YtlmabbigfdbmbaaGreatDoor.Drum
abbrev Th:=ByteArray × ByteArray
def place:List Th→ByteArray→Nat
 | [],_=>0
 | x :: l,id=>if x.1=id then 1 else if place l id=0 then 0 else place l id+1
theorem place_cons(x:Th)(l:List Th)(id:ByteArray):place (x :: l) id=if x.1=id then 1 else if place l id=0 then 0 else place l id+1:=rfl
theorem place_le:∀ (l:List Th) (id:ByteArray),place l id≤l.length
 | [],_=>Nat.le_refl _
 | x :: l,id=>by
  have:=place_le l id
  unfold place
  split
  ·simp
  ·split
   ·exact Nat.zero_le _
   ·simp only[List.length_cons];omega
theorem place_get:∀ (l:List Th) (id:ByteArray),place l id≠0→∃ b,l[place l id - 1]? = some (id,b)
 | [],_,h=>(h rfl).elim
 | x :: l,id,h=>by
  unfold place at h ⊢
  by_cases h1:x.1=id
  ·simp only[if_pos h1]
   exact⟨x.2,by rw[← h1];rfl⟩
  ·simp only[if_neg h1]at h ⊢
   by_cases h2:place l id=0
   ·simp only[if_pos h2]at h;exact(h rfl).elim
   ·simp only[if_neg h2]
    obtain⟨b,hb⟩:=place_get l id h2
    refine⟨b,?_⟩
    obtain⟨n,hn⟩:∃ n,place l id=n+1:=⟨place l id - 1,by omega⟩
    rw[hn]at hb ⊢
    exact hb
theorem place_zero:∀ (l:List Th) (id:ByteArray),place l id=0↔id∉l.map Prod.fst
 | [],_=>by simp[place]
 | x :: l,id=>by
  have ih:=place_zero l id
  unfold place
  by_cases h1:x.1=id
  ·simp[h1]
  ·rw[if_neg h1]
   by_cases h2:place l id=0
   ·rw[if_pos h2]
    have:=ih.1 h2
    refine⟨fun _ hm=>?_,fun _=>rfl⟩
    rcases List.mem_cons.1 hm with e | e
    ·exact h1 e.symm
    ·exact this e
   ·rw[if_neg h2]
    have:id∈l.map Prod.fst:=Classical.not_not.1 fun h=>h2 (ih.2 h)
    exact⟨fun h=>by omega,fun h=>(h (List.mem_cons_of_mem _ this)).elim⟩
theorem place_append:∀ (l m:List Th) (id:ByteArray),place (l++m) id=if place l id=0 then (if place m id=0 then 0 else l.length+place m id)else place l id
 | [],m,id=>by simp only[place,List.nil_append,List.length_nil,if_true];split<;>omega
 | x :: l,m,id=>by
  have ih:=place_append l m id
  rw[List.cons_append,place_cons,place_cons]
  by_cases h1:x.1=id
  ·simp[h1]
  ·simp only[if_neg h1,ih,List.length_cons]
   by_cases h2:place l id=0
   ·simp only[h2,if_true]
    by_cases h3:place m id=0
    ·simp[h3]
    ·simp only[if_neg h3]
     rw[if_neg (by omega)]
     omega
   ·simp only[if_neg h2,Nat.add_eq_zero_iff,false_and,if_false,Nat.one_ne_zero,and_false]
theorem place_nth:∀ (l:List Th) (i:Nat) (x:Th),(l.map Prod.fst).Nodup→l[i]? = some x→place l x.1=i+1
 | [],i,x,_,h=>by simp at h
 | y :: l,i,x,hn,h=>by
  rw[List.map_cons,List.nodup_cons]at hn
  cases i with
  | zero=>simp at h;subst h;simp[place]
  | succ i=>
   rw[List.getElem?_cons_succ]at h
   have ih:=place_nth l i x hn.2 h
   have hx:x.1∈l.map Prod.fst:=List.mem_map.2 ⟨x,List.mem_of_getElem? h,rfl⟩
   unfold place
   rw[if_neg (fun e=>hn.1 (by rw[e];exact hx)),ih,if_neg (by omega)]
theorem place_take(l:List Th)(n:Nat)(id:ByteArray):place (l.take n) id=if place l id≤n then place l id else 0:=by
 have h:=place_append (l.take n) (l.drop n) id
 rw[List.take_append_drop]at h
 have hl:=place_le (l.take n) id
 rw[List.length_take]at hl
 by_cases h0:place (l.take n) id=0
 ·rw[if_pos h0]at h
  by_cases h1:place (l.drop n) id=0
  ·rw[if_pos h1]at h;rw[h,if_pos (Nat.zero_le _),h0]
  ·rw[if_neg h1,List.length_take]at h
   have:=place_le (l.drop n) id
   rw[List.length_drop]at this
   rw[if_neg (by omega),h0]
 ·rw[if_neg h0]at h
  rw[h,if_pos (by omega)]
def placeD(l:List Th)(n i:Nat)(id:ByteArray):Nat:=if n < place l id∧place l id≤n+i then 0 else place l id
theorem placeD_zero(l:List Th)(n:Nat)(id:ByteArray):placeD l n 0 id=place l id:=by unfold placeD;rw[if_neg (by omega)]
theorem placeD_step{l:List Th}(hn:(l.map Prod.fst).Nodup){n i:Nat}{x:Th}(hx:l[n+i]? = some x)(id:ByteArray):placeD l n (i+1) id=if id=x.1 then 0 else placeD l n i id:=by
 unfold placeD
 by_cases e:id=x.1
 ·subst e
  rw[if_pos rfl,place_nth l _ x hn hx,if_pos (by omega)]
 ·rw[if_neg e]
  have hne:place l id≠n+i+1:=fun h=>by
   obtain⟨b,hb⟩:=place_get l id (by omega)
   rw[h,Nat.add_sub_cancel,hx]at hb
   injection hb with hb
   exact e (by rw[hb])
  by_cases h1:n < place l id∧place l id≤n+i
  ·rw[if_pos h1,if_pos (by omega)]
  ·rw[if_neg h1,if_neg (by omega)]
theorem placeD_end(l:List Th)(n i:Nat)(h:l.length≤n+i)(id:ByteArray):placeD l n i id=place (l.take n) id:=by
 have:=place_le l id
 rw[place_take]
 unfold placeD
 by_cases h1:place l id≤n
 ·rw[if_neg (by omega),if_pos h1]
 ·rw[if_pos (by omega),if_neg h1]
theorem place_one(id b id':ByteArray):place [(id,b)] id'=if id=id' then 1 else 0:=by simp[place]
structure SS where
 things:List Th
 sure:Nat
 ups:Nat
def SS.ok(S:SS):Prop:=(S.things.map Prod.fst).Nodup∧S.sure≤S.things.length∧S.things.length≤S.ups∧∀ x∈S.things,x.1.size≤32∧x.2.size≤65535
def SS.bytes(S:SS)(id:ByteArray):Option ByteArray:=if place S.things id=0 then none else (S.things[place S.things id - 1]?).map Prod.snd
def SS.put(S:SS)(id b:ByteArray):Int × SS:=
 match S.bytes id with
 | none=>(0,⟨S.things ++ [(id,b)],S.sure,S.ups+1⟩)
 | some b'=>if b'=b then (0,S)else (22,S)
def SS.drop(S:SS):SS:=⟨S.things.take S.sure,S.sure,S.ups⟩
theorem SS.bytes_none{S:SS}{id:ByteArray} : S.bytes id=none↔place S.things id=0:=by
 unfold SS.bytes
 by_cases h:place S.things id=0
 ·simp[h]
 ·obtain⟨b,hb⟩:=place_get _ _ h
  rw[if_neg h,hb]
  simp[h]
theorem SS.bytes_some{S:SS}{id b:ByteArray}(h:S.bytes id=some b):place S.things id≠0∧S.things[place S.things id - 1]? = some (id,b):=by
 unfold SS.bytes at h
 by_cases h0:place S.things id=0
 ·rw[if_pos h0]at h;cases h
 ·obtain⟨b',hb⟩:=place_get _ _ h0
  rw[if_neg h0,hb]at h
  injection h with h
  subst h
  exact⟨h0,hb⟩
theorem SS.put_ok{S:SS}(h:S.ok){id b:ByteArray}(hi:id.size≤32)(hb:b.size≤65535):(S.put id b).2.ok:=by
 unfold SS.put
 cases hx:S.bytes id with
 | none=>
  refine⟨?_,?_,?_,?_⟩
  ·show((S.things ++ [(id,b)]).map Prod.fst).Nodup
   rw[List.map_append,List.nodup_append]
   refine⟨h.1,by simp,fun a ha c hc=>?_⟩
   have:=(place_zero _ _).1 (SS.bytes_none.1 hx)
   simp only[List.map_cons,List.map_nil,List.mem_singleton]at hc
   rintro rfl
   exact this (hc▸ha)
  ·show S.sure≤(S.things ++ [(id,b)]).length
   have:=h.2.1
   rw[List.length_append];omega
  ·show(S.things ++ [(id,b)]).length≤S.ups+1
   have:=h.2.2.1
   rw[List.length_append,List.length_singleton];omega
  ·intro x hx
   rcases List.mem_append.1 hx with hx | hx
   ·exact h.2.2.2 x hx
   ·rw[List.mem_singleton.1 hx];exact⟨hi,hb⟩
 | some b'=>
  simp only[]
  split
  ·exact h
  ·exact h
def MapAt(W:World)(pb n:Nat)(f:ByteArray→Nat):Prop:=
 ∃ D:DataW Unit,W.ownsMap Tryz.prog 9 (plainElem Tryz.prog 3) pb n D∧∀ s:ByteArray,s.size≤maxLen→D.atKey (.string s.data.toList) (.lit (.int .i64 0)) = .lit (.int .i64 (f s:Int))
theorem str_ext{s t:ByteArray}(h:s.data.toList=t.data.toList):s=t:=by
 cases s;cases t;simp only[ByteArray.mk.injEq];exact Array.toList_inj.1 h
theorem keyedS:Maps.Keyed Tryz.prog 9:=Maps.string_keyed Tryz.underlying9
theorem zeroI(w:World):(zeroValue 3).run Tryz.prog w = .ok (.int .i64 0) w:=by kernel_rfl
theorem MapAt.kept{W W':World}{pb n:Nat}{f:ByteArray→Nat}{G:Nat→Prop}(h:MapAt W pb n f)(hm:Mod G W W')(hG:¬ G pb):MapAt W' pb n f:=by
 obtain⟨D,⟨es,clock,hb,F,hs,hD⟩,hf⟩:=h
 exact⟨D,⟨es,clock,(hm.block pb (Array.getElem?_eq_some_iff.1 hb).1 hG).trans hb,F,hs,hD⟩,hf⟩
theorem MapAt.lt{W:World}{pb n:Nat}{f:ByteArray→Nat}(h:MapAt W pb n f):pb < W.heap.size:=by
 obtain⟨D,ho,_⟩:=h
 exact ho.lt
theorem MapAt.made(W:World):MapAt (W.alloc (.map #[] 0)) W.heap.size 0 (fun _=>0):=⟨.map [],World.ownsMap_made W _ _ _,fun s hs=>rfl⟩
theorem MapAt.look{W:World}{pb n:Nat}{f:ByteArray→Nat}(h:MapAt W pb n f){s:ByteArray}(hs:s.size≤maxLen):(Instr.lookup 41 (.map (some pb)) (.string s) false).run Tryz.prog W = .ok (.int .i64 (f s:Int)) W:=by
 obtain⟨D,ho,hf⟩:=h
 obtain⟨c,hr,hc,_⟩:=ho.lookup_int keyedS Tryz.underlying41 Tryz.underlying3 (zeroI W) (WideMaps.keyOf_string_mk Tryz.underlying9 hs)
 rw[hf s hs]at hc
 simp only[DataW.lit.injEq,Lit.int.injEq,true_and]at hc
 rw[hr,hc]
theorem MapAt.update{W:World}{pb n:Nat}{f:ByteArray→Nat}(h:MapAt W pb n f)(hn:n < maxLen){s:ByteArray}(hs:s.size≤maxLen){m:Nat}(hm:m≤9223372036854775807) :
  ∃ W',(Instr.mapUpdate 41 (.map (some pb)) (.string s) (.int .i64 (m:Int))).run Tryz.prog W = .ok () W'∧MapAt W' pb (n+1) (fun x=>if x=s then m else f x)∧Mod (fun k=>k=pb) W W':=by
 obtain⟨D,ho,hf⟩:=h
 obtain⟨W',hr,ho',hg⟩:=ho.update keyedS Tryz.underlying41 hn (WideMaps.keyOf_string_mk Tryz.underlying9 hs) (plainElem_int Tryz.underlying3 (a:=(m:Int)) (by simp only[Lit.wf,Bool.and_eq_true,decide_eq_true_eq];exact⟨by show(-9223372036854775808:Int)≤_;omega,by show _≤(9223372036854775807:Int);omega⟩))
 refine⟨W',hr,⟨_,ho',fun x hx=>?_⟩,Mod.of_grown hg (fun k hk=>(Option.some.inj hk).symm)⟩
 show _=DataW.lit (Lit.int .i64 ((if x=s then m else f x:Nat):Int))
 by_cases e:x=s
 ·subst e
  rw[if_pos rfl]
  exact Maps.atKey_put_same ho.isMap (by trivial) _ _
 ·rw[if_neg e,Maps.atKey_put_other (fun he=>e ?_)]
  ·exact hf x hx
  ·exact str_ext (Lit.string.inj he)
theorem MapAt.drop{W:World}{pb n:Nat}{f:ByteArray→Nat}(h:MapAt W pb n f){s:ByteArray}(hs:s.size≤maxLen)(ty:TypeId) :
  ∃ W',(Builtin.delete_ #[41,9] ty #[.map (some pb),.string s]).run Tryz.prog W = .ok (.tuple #[]) W'∧MapAt W' pb n (fun x=>if x=s then 0 else f x)∧Mod (fun k=>k=pb) W W':=by
 obtain⟨D,ho,hf⟩:=h
 obtain⟨W',hr,ho',hg⟩:=ho.drop keyedS Tryz.underlying41 (WideMaps.keyOf_string_mk Tryz.underlying9 hs) ty
 refine⟨W',hr,⟨_,ho',fun x hx=>?_⟩,Mod.of_grown hg.grown (fun k hk=>(Option.some.inj hk).symm)⟩
 show _=DataW.lit (Lit.int .i64 ((if x=s then 0 else f x:Nat):Int))
 by_cases e:x=s
 ·subst e
  rw[if_pos rfl]
  exact Maps.atKey_del_same _
 ·rw[if_neg e,Maps.atKey_del_other (fun he=>e ?_)]
  ·exact hf x hx
  ·exact str_ext (Lit.string.inj he)
theorem MapAt.congr{W:World}{pb n:Nat}{f g:ByteArray→Nat}(h:MapAt W pb n f)(e:∀ s,f s=g s):MapAt W pb n g:=(funext e:f=g)▸h
def thingCells(l:List Th):List Value:=l.flatMap fun x=>[.string x.1,.string x.2]
theorem thingCells_len(l:List Th):(thingCells l).length=l.length * 2:=by
 induction l with
 | nil=>rfl
 | cons x l ih=>rw[show thingCells (x :: l) = [.string x.1,.string x.2]++thingCells l from rfl,List.length_append,ih];simp;omega
theorem thingCells_append(l m:List Th):thingCells (l++m)=thingCells l++thingCells m:=by simp[thingCells]
theorem thingCells_take(l:List Th)(n:Nat):thingCells (l.take n)=(thingCells l).take (n * 2):=by
 induction n generalizing l with
 | zero=>simp[thingCells]
 | succ n ih=>
  cases l with
  | nil=>simp[thingCells]
  | cons x l=>rw[List.take_succ_cons,show thingCells (x :: l.take n) = .string x.1 :: .string x.2 :: thingCells (l.take n)from rfl,ih,show(n+1) * 2=n * 2+1+1 by omega,show thingCells (x :: l) = .string x.1 :: .string x.2 :: thingCells l from rfl,List.take_succ_cons,List.take_succ_cons]
theorem thingCells_get(l:List Th)(i:Nat)(x:Th)(h:l[i]? = some x):(thingCells l)[i * 2]? = some (.string x.1)∧(thingCells l)[i * 2+1]? = some (.string x.2):=by
 induction i generalizing l with
 | zero=>
  cases l with
  | nil=>simp at h
  | cons y l=>simp at h;subst h;exact⟨rfl,rfl⟩
 | succ i ih=>
  cases l with
  | nil=>simp at h
  | cons y l=>
   rw[List.getElem?_cons_succ]at h
   have:=ih l h
   rw[show(i+1) * 2=i * 2+1+1 by omega,show thingCells (y :: l) = .string y.1 :: .string y.2 :: thingCells l from rfl]
   simpa using this
structure ShelfAt(W:World)(sb tb pb:Nat)(v:Value)(S:SS)(f:ByteArray→Nat):Prop where
 box:W.heap[sb]? = some (.cells #[.pointer (some ⟨tb,0,none⟩),v,.map (some pb),.int .i64 (S.sure:Int)] 43 (0,0))
 row:W.ownsRow 0 108 2 v S.things.length (thingCells S.things)
 map:MapAt W pb S.ups f
 ne:sb≠pb
 nv:v.ownBlock≠some sb
 nm:v.ownBlock≠some pb
def shelfM(sb tb pb:Nat)(v:Value)(S:SS)(f:ByteArray→Nat):Thing where
 P:=fun W=>ShelfAt W sb tb pb v S f
 F:=fun k=>k=sb∨k=pb∨v.ownBlock=some k
 kept:=fun W W' G h hm hG=>⟨(hm.block sb (Array.getElem?_eq_some_iff.1 h.box).1 (hG sb (.inl rfl))).trans h.box,ownsRow_mod h.row hm (fun k hk=>hG k (.inr (.inr hk))),h.map.kept hm (hG pb (.inr (.inl rfl))),h.ne,h.nv,h.nm⟩
 lt:=fun W h k hk=>by
  rcases hk with rfl | rfl | hk
  ·exact(Array.getElem?_eq_some_iff.1 h.box).1
  ·exact h.map.lt
  ·exact(h.row.lt k hk).2
def shelfT(sb tb pb:Nat)(v:Value)(S:SS):Thing:=shelfM sb tb pb v S (place S.things)
section
variable{B:Nat}{w W W':World}{l:List Thing}{sb tb pb:Nat}{v:Value}{S:SS}{f:ByteArray→Nat}
theorem ShelfAt.slice(h:ShelfAt W sb tb pb v S f):∃ A c,v = .slice A S.things.length c:=by
 rcases h.row.2 with ⟨e,h0⟩ | ⟨g,cp,cur,e,_⟩
 ·exact⟨none,0,by rw[e,h0]⟩
 ·exact⟨_,cp,e⟩
theorem ShelfAt.thing{A:Option Addr}{n c:Nat}(h:ShelfAt W sb tb pb (.slice A n c) S f){i:Nat}{x:Th}(hx:S.things[i]? = some x) :
  ∃ g,A=some ⟨g,0,none⟩∧W.cell? ⟨g,i * 2,none⟩=some (.string x.1)∧W.cell? ⟨g,i * 2+1,none⟩=some (.string x.2):=by
 have hi:i < S.things.length:=(List.getElem?_eq_some_iff.1 hx).1
 rcases h.row.2 with ⟨e,h0⟩ | ⟨g,cp,cur,e,_,hg,_,_,hcur,hrow⟩
 ·omega
 ·injection e with e1 e2 e3
  refine⟨g,e1,?_,?_⟩
  ·rw[Lib.cell_of_heap hg]
   have h1:=(thingCells_get _ _ _ hx).1
   rw[← hrow,List.getElem?_take_of_lt (by omega)]at h1
   simpa using h1
  ·rw[Lib.cell_of_heap hg]
   have h1:=(thingCells_get _ _ _ hx).2
   rw[← hrow,List.getElem?_take_of_lt (by omega)]at h1
   simpa using h1
theorem ShelfAt.c0(h:ShelfAt W sb tb pb v S f):W.cell? ⟨sb,0,none⟩=some (.pointer (some ⟨tb,0,none⟩)):=by rw[Lib.cell_of_heap h.box];rfl
theorem ShelfAt.c1(h:ShelfAt W sb tb pb v S f):W.cell? ⟨sb,1,none⟩=some v:=by rw[Lib.cell_of_heap h.box];rfl
theorem ShelfAt.c2(h:ShelfAt W sb tb pb v S f):W.cell? ⟨sb,2,none⟩=some (.map (some pb)):=by rw[Lib.cell_of_heap h.box];rfl
theorem ShelfAt.c3(h:ShelfAt W sb tb pb v S f):W.cell? ⟨sb,3,none⟩=some (.int .i64 (S.sure:Int)):=by rw[Lib.cell_of_heap h.box];rfl
theorem ShelfAt.free(h:ShelfAt W sb tb pb v S f)(i:Nat):W.frozen? ⟨sb,i,none⟩=false:=frozen_of_row W sb i _ _ h.box
theorem ShelfAt.of(h:Sep B w W (shelfT sb tb pb v S :: l)):ShelfAt W sb tb pb v S (place S.things):=(h.all _ List.mem_cons_self).1
theorem ShelfAt.ofM(h:Sep B w W (shelfM sb tb pb v S f :: l)):ShelfAt W sb tb pb v S f:=(h.all _ List.mem_cons_self).1
theorem ShelfAt.mod{G:Nat→Prop}(h:ShelfAt W sb tb pb v S f)(hm:Mod G W W')(h1:¬ G sb)(h2:¬ G pb)(h3:∀ k,v.ownBlock=some k→¬ G k):ShelfAt W' sb tb pb v S f:=
 (shelfM sb tb pb v S f).kept W W' G h hm (fun k hk=>by rcases hk with rfl | rfl | hk;exact h1;exact h2;exact h3 k hk)
theorem ShelfAt.new(h:ShelfAt W sb tb pb v S f)(hm:NewMem W W'):ShelfAt W' sb tb pb v S f:=h.mod (G:=fun _=>False) (Mod.of_below hm) id id (fun _ _=>id)
theorem ShelfAt.updated{n':Nat}{f':ByteArray→Nat}(h:ShelfAt W sb tb pb v S f)(hm:Mod (fun k=>k=pb) W W')(hM:MapAt W' pb n' f'):ShelfAt W' sb tb pb v ⟨S.things,S.sure,n'⟩ f':=
 ⟨(hm.block sb (Array.getElem?_eq_some_iff.1 h.box).1 h.ne).trans h.box,ownsRow_mod h.row hm (fun k hk e=>h.nm (by rw[hk,e])),hM,h.ne,h.nv,h.nm⟩
theorem ShelfAt.appended{id b:ByteArray}{g c:Nat}(h:ShelfAt W sb tb pb v S f)(hm:Mod (fun k=>v.ownBlock=some k) W W')
  (hr:W'.ownsRow 0 108 2 (.slice (some ⟨g,0,none⟩) (S.things.length+1) c) (S.things.length+1) (thingCells (S.things ++ [(id,b)]))) (hg:v.ownBlock=some g∨W.heap.size≤g) (ups:Nat) (hu:ups=S.ups) :
  ShelfAt (W'.setCell ⟨sb,1,none⟩ (.slice (some ⟨g,0,none⟩) (S.things.length+1) c)) sb tb pb (.slice (some ⟨g,0,none⟩) (S.things.length+1) c) ⟨S.things ++ [(id,b)],S.sure,ups⟩ f:=by
 subst hu
 have hbx:=(hm.block sb (Array.getElem?_eq_some_iff.1 h.box).1 h.nv).trans h.box
 have hne:sb≠g:=by
  rcases hg with e | e
  ·intro x;exact h.nv (by rw[e,x])
  ·have:=(Array.getElem?_eq_some_iff.1 h.box).1;omega
 have hnp:pb≠g:=by
  rcases hg with e | e
  ·intro x;exact h.nm (by rw[e,x])
  ·have:=h.map.lt;omega
 refine⟨cells_set hbx 1 _,?_,(h.map.kept hm h.nm).kept (G:=fun k=>k=sb) (Mod.setCell _ _ _ rfl) (fun e=>h.ne e.symm),h.ne,?_,?_⟩
 ·have:=ownsRow_mod hr (Mod.setCell (F:=fun k=>k=sb) W' ⟨sb,1,none⟩ (.slice (some ⟨g,0,none⟩) (S.things.length+1) c) rfl) (fun k hk e=>hne (by subst e;simpa [Value.ownBlock] using hk.symm))
  simpa using this
 ·simpa [Value.ownBlock] using fun e:g=sb=>hne e.symm
 ·simpa [Value.ownBlock] using fun e:g=pb=>hnp e.symm
end
end Go.Proofs.YtlmabbigfdbmbaaGreatDoor.Shelf
namespace Go.Proofs.YtlmabbigfdbmbaaGreatDoor.Tape
open Go.RowKit
theorem w_id{a:Nat}(h:a≤9223372036854775807):wrap64 (a:Int)=(a:Int):=by unfold wrap64;omega
theorem w_one{a:Nat}(h:a≤140737488355328):wrap64 ((a:Int)+1)=((a+1:Nat):Int):=by unfold wrap64;omega
theorem w_add{a b:Nat}(h:a+b≤9223372036854775807):wrap64 ((a:Int)+(b:Int))=((a+b:Nat):Int):=by unfold wrap64;omega
theorem w_sub{a b:Nat}(h:b≤a)(ha:a≤9223372036854775807):wrap64 ((a:Int) - (b:Int))=((a - b:Nat):Int):=by unfold wrap64;omega
def numL(l:List UInt8):Nat:=l.foldl (fun n b=>n * 256+b.toNat) 0
theorem numL_snoc(l:List UInt8)(b:UInt8):numL (l ++ [b])=numL l * 256+b.toNat:=by unfold numL;rw[List.foldl_append];rfl
theorem fold_lt:∀ (l:List UInt8) (a:Nat),l.foldl (fun n b=>n * 256+b.toNat) a < (a+1) * 256 ^ l.length
 | [],a=>by simp
 | b :: l,a=>by
  have ih:=fold_lt l (a * 256+b.toNat)
  have hb:=b.toNat_lt
  rw[List.foldl_cons,List.length_cons,Nat.pow_succ]
  refine Nat.lt_of_lt_of_le ih ?_
  rw[Nat.mul_comm (256 ^ l.length) 256,← Nat.mul_assoc]
  exact Nat.mul_le_mul (by omega) (Nat.le_refl _)
theorem numL_lt(l:List UInt8):numL l < 256 ^ l.length:=by
 have:=fold_lt l 0
 rw[Nat.zero_add,Nat.one_mul]at this
 exact this
def beL:Nat→Nat→List UInt8
 | 0,_=>[]
 | k+1,n=>beL k (n / 256) ++ [UInt8.ofNat (n % 256)]
theorem beL_len:∀ k n,(beL k n).length=k
 | 0,_=>rfl
 | k+1,n=>by rw[beL,List.length_append,beL_len k];rfl
theorem numL_beL:∀ k n,n < 256 ^ k→numL (beL k n)=n
 | 0,n,h=>by simp at h;subst h;rfl
 | k+1,n,h=>by
  rw[beL,numL_snoc,numL_beL k (n / 256) (by rw[Nat.pow_succ]at h;exact Nat.div_lt_of_lt_mul (by omega))]
  simp
  omega
theorem beL_at:∀ (k n i:Nat),i < k→(beL k n)[i]? = some (UInt8.ofNat (n / 256 ^ (k - 1 - i) % 256))
 | 0,n,i,h=>by omega
 | k+1,n,i,hi=>by
  rw[beL]
  rcases Nat.lt_or_ge i k with h | h
  ·rw[List.getElem?_append_left (by rw[beL_len];exact h),beL_at k (n / 256) i h,Nat.div_div_eq_div_mul]
   rw[show k+1 - 1 - i=(k - 1 - i)+1 by omega,Nat.pow_succ,Nat.mul_comm (256 ^ (k - 1 - i)) 256]
  ·obtain rfl:i=k:=by omega
   rw[List.getElem?_append_right (by rw[beL_len];exact Nat.le_refl _),beL_len]
   simp
def sumFrom:Nat→List UInt8→Nat
 | _,[]=>0
 | i,b :: l=>(i+1) * b.toNat+sumFrom (i+1) l
theorem sumFrom_append:∀ (l m:List UInt8) (i:Nat),sumFrom i (l++m)=sumFrom i l+sumFrom (i+l.length) m
 | [],m,i=>by simp[sumFrom]
 | b :: l,m,i=>by
  rw[List.cons_append,sumFrom,sumFrom,sumFrom_append l m (i+1),List.length_cons]
  rw[show i+1+l.length=i+(l.length+1)by omega];omega
theorem sumFrom_le:∀ (l:List UInt8) (i n:Nat),i+l.length≤n→sumFrom i l≤l.length * (n * 255)
 | [],i,n,_=>by simp[sumFrom]
 | b :: l,i,n,h=>by
  rw[List.length_cons]at h
  have ih:=sumFrom_le l (i+1) n (by omega)
  have hb:=b.toNat_lt
  have e:(l.length+1) * (n * 255)=l.length * (n * 255)+n * 255:=by rw[Nat.add_mul,Nat.one_mul]
  rw[sumFrom,List.length_cons,e]
  have:(i+1) * b.toNat≤n * 255:=Nat.mul_le_mul (by omega) (by omega)
  omega
def weighL(l:List UInt8):Nat:=sumFrom 0 l % 65521
theorem weighL_lt(l:List UInt8):weighL l < 65536:=by unfold weighL;omega
structure Sec where
 life:Nat
 record:Nat
 part:Nat
 last:Bool
 s:List UInt8
def cntL(l:List UInt8):Nat:=(l.getD 10 0).toNat
def saysN(l:List UInt8):Option Sec:=
 if numL (l.take 4)=0∨51 < cntL l % 128∨(cntL l < 128∧cntL l % 128 < 51)then none
 else if (((l.take 62).drop (11+cntL l % 128)).any fun b=>b != 0)=true∨weighL (l.take 62)≠numL (l.drop 62)then none
 else some ⟨numL (l.take 4),numL ((l.drop 4).take 4),numL ((l.drop 8).take 2),decide (128≤cntL l),(l.drop 11).take (cntL l % 128)⟩
def headL(x:Sec):List UInt8:=beL 4 x.life++(beL 4 x.record++(beL 2 x.part++(beL 1 (x.s.length+if x.last then 128 else 0)++(x.s++List.replicate (51 - x.s.length) 0))))
def layN(x:Sec):List UInt8:=headL x++beL 2 (weighL (headL x))
structure Sec.ok(x:Sec):Prop where
 life:0 < x.life∧x.life < 4294967296
 record:x.record < 4294967296
 part:x.part < 65536
 len:x.s.length≤51
 full:x.last=false→x.s.length=51
theorem headL_len{x:Sec}(h:x.s.length≤51):(headL x).length=62:=by
 unfold headL
 simp only[List.length_append,beL_len,List.length_replicate]
 omega
theorem layN_len{x:Sec}(h:x.s.length≤51):(layN x).length=64:=by
 unfold layN;rw[List.length_append,beL_len,headL_len h]
theorem take_app{α:Type}{a b:List α}{n:Nat}(h:a.length=n):(a++b).take n=a:=by rw[← h,List.take_left]
theorem drop_app{α:Type}{a b:List α}{n:Nat}(h:a.length=n):(a++b).drop n=b:=by rw[← h,List.drop_left]
theorem says_lay{x:Sec}(h:x.ok):saysN (layN x)=some x:=by
 obtain⟨⟨hl0,hl1⟩,hr,hp,hs,hf⟩:=h
 have hh:=headL_len hs
 have e62:(layN x).take 62=headL x:=by unfold layN;exact take_app hh
 have d62:(layN x).drop 62=beL 2 (weighL (headL x)):=by unfold layN;exact drop_app hh
 obtain⟨c,hc⟩:∃ c,c=x.s.length+if x.last then 128 else 0:=⟨_,rfl⟩
 have hc1:c < 256:=by rw[hc];split<;>omega
 have hform:layN x=beL 4 x.life++(beL 4 x.record++(beL 2 x.part++(beL 1 c++(x.s++(List.replicate (51 - x.s.length) 0++beL 2 (weighL (headL x))))))):=by
  unfold layN
  conv=>lhs;lhs;unfold headL
  rw[← hc]
  simp only[List.append_assoc]
 have e4:(layN x).take 4=beL 4 x.life:=by rw[hform];exact take_app (beL_len _ _)
 have d4:(layN x).drop 4=beL 4 x.record++(beL 2 x.part++(beL 1 c++(x.s++(List.replicate (51 - x.s.length) 0++beL 2 (weighL (headL x)))))):=by rw[hform];exact drop_app (beL_len _ _)
 have d8:(layN x).drop 8=beL 2 x.part++(beL 1 c++(x.s++(List.replicate (51 - x.s.length) 0++beL 2 (weighL (headL x))))):=by
  rw[show 8=4+4 from rfl,← List.drop_drop,d4];exact drop_app (beL_len _ _)
 have d10:(layN x).drop 10=beL 1 c++(x.s++(List.replicate (51 - x.s.length) 0++beL 2 (weighL (headL x)))):=by
  rw[show 10=8+2 from rfl,← List.drop_drop,d8];exact drop_app (beL_len _ _)
 have d11:(layN x).drop 11=x.s++(List.replicate (51 - x.s.length) 0++beL 2 (weighL (headL x))):=by
  rw[show 11=10+1 from rfl,← List.drop_drop,d10];exact drop_app (beL_len _ _)
 have hb1:beL 1 c = [UInt8.ofNat c]:=by
  simp only[beL,List.nil_append]
  congr 2
  omega
 have hcnt:cntL (layN x)=c:=by
  unfold cntL
  have:(layN x)[10]? = some (UInt8.ofNat c):=by
   have:=congrArg (fun l=>l[0]?) d10
   simp only[List.getElem?_drop,Nat.add_zero]at this
   rw[this,hb1];rfl
  rw[List.getD_eq_getElem?_getD,this]
  simp
  omega
 have hmod:c % 128=x.s.length:=by rw[hc];split<;>omega
 have hlast:decide (128≤c)=x.last:=by
  rw[hc];cases x.last<;>simp<;>omega
 unfold saysN
 rw[hcnt,hmod,e4,numL_beL 4 _ (by simpa using hl1)]
 rw[if_neg (by
  rintro(h | h | ⟨h1,h2⟩)
  ·omega
  ·omega
  ·have:x.last=false:=by rw[← hlast];simp;omega
   have:=hf this;omega)]
 rw[e62,d62,numL_beL 2 _ (by have:=weighL_lt (headL x);simpa using this)]
 have hz:((headL x).drop (11+x.s.length))=List.replicate (51 - x.s.length) 0:=by
  unfold headL
  rw[← hc]
  rw[show 11+x.s.length=4+(4+(2+(1+x.s.length)))by omega]
  rw[← List.drop_drop,drop_app (beL_len _ _),← List.drop_drop,drop_app (beL_len _ _),← List.drop_drop,drop_app (beL_len _ _),← List.drop_drop,drop_app (beL_len _ _),drop_app rfl]
 rw[hz,if_neg (by
  rintro(h | h)
  ·rw[List.any_eq_true]at h
   obtain⟨b,hb,hb0⟩:=h
   rw[List.eq_of_mem_replicate hb]at hb0
   simp at hb0
  ·exact h rfl)]
 rw[d4,take_app (beL_len _ _),d8,take_app (beL_len _ _),d11,take_app rfl,numL_beL 4 _ (by simpa using hr),numL_beL 2 _ (by simpa using hp),hlast]
end Go.Proofs.YtlmabbigfdbmbaaGreatDoor.Tape
namespace Go.Proofs.YtlmabbigfdbmbaaGreatDoor.Tape
open Go.RowKit Go.Proofs.YtlmabbigfdbmbaaGreatDoor.Ord Go.Proofs.YtlmabbigfdbmbaaGreatDoorW.PrintWords Go.Proofs.YtlmabbigfdbmbaaGreatDoor.Base
theorem take_byte(s:ByteArray)(k:Nat)(h:k < s.size):s.data.toList.take (k+1)=s.data.toList.take k ++ [s[k]]:=by
 rw[List.take_succ_eq_append_getElem (by simpa using h)];rfl
theorem wraps_i64(n:Int)(h₀:0≤n)(h₁:n < 2 ^ 63):IntKind.i64.wrap n=n:=by rw[IntKind.wrap_i64];omega
theorem or_byte(m b:Nat)(hm:m < 281474976710656)(hb:b < 256):bits .or .i64 ((m:Int) * 256) (b:Int)=((m * 256+b:Nat):Int):=by
 rw[bits_join .i64 63 (by decide) wraps_i64 8 ((m:Int) * 256) (b:Int) (by omega) (by omega) (by omega) (by omega) (by omega) (by omega)]
 omega
set_option maxHeartbeats 1000000 in
theorem number_any(s:ByteArray)(hs:s.size≤6)(w:World) :
  Calls Tryz.prog 205 #[.string s] w fun e w'=>e = .returned (.int .i64 (numL s.data.toList:Int))∧w'=w:=by
 go_enter Tryz.func205,Tryz.ntmps205
 go_wp2
 go_loop [3,7] (fun n i=>∃ k:Nat,k≤s.size∧i = .int .i64 k∧n = .int .i64 (numL (s.data.toList.take k):Int)) (fun _ i=>s.size - (intOf i).toNat)
 case atStart=>exact⟨0,Nat.zero_le _,rfl,rfl⟩
 case round=>
  obtain⟨k,hk,rfl,rfl⟩:=hrel
  by_cases hlt:k < s.size
  ·have hl:=numL_lt (s.data.toList.take k)
   have hn:numL (s.data.toList.take k) < 281474976710656:=by
    refine Nat.lt_of_lt_of_le hl ?_
    exact Nat.le_trans (Nat.pow_le_pow_right (by decide) (show(s.data.toList.take k).length≤6 by rw[List.length_take];omega)) (by decide)
   have HS:Hid (numL (s.data.toList.take (k+1))=numL (s.data.toList.take k) * 256+s[k].toNat):=by rw[take_byte s k hlt,numL_snoc];exact rfl
   generalize hm:numL (s.data.toList.take k)=m at *
   have hb:s[k].toNat < 256:=s[k].toNat_lt
   have ho:=or_byte m s[k].toNat hn hb
   clear hm hl
   go_wp2
   go_round
   case rel=>exact⟨k+1,by omega,by go_num,by rw[HS.out];go_num⟩
   case measure=>simp[intOf];omega
  ·go_wp2
   go_ret
   exact⟨by rw[List.take_of_length_le (by simp;omega)];rfl,rfl⟩
set_option maxHeartbeats 1000000 in
theorem weigh_eq(s:ByteArray)(hs:s.size≤1000)(w:World) :
  Calls Tryz.prog 164 #[.string s] w fun e w'=>e = .returned (.int .i64 (weighL s.data.toList:Int))∧w'=w:=by
 go_enter Tryz.func164,Tryz.ntmps164
 go_wp2
 go_loop [3,7] (fun n i=>∃ k:Nat,k≤s.size∧i = .int .i64 k∧n = .int .i64 (sumFrom 0 (s.data.toList.take k):Int)) (fun _ i=>s.size - (intOf i).toNat)
 case atStart=>exact⟨0,Nat.zero_le _,rfl,rfl⟩
 case round=>
  obtain⟨k,hk,rfl,rfl⟩:=hrel
  by_cases hlt:k < s.size
  ·have hbb:s[k].toNat < 256:=s[k].toNat_lt
   have hsum:sumFrom 0 (s.data.toList.take k)≤1000 * 255000:=by
    have h1:=sumFrom_le (s.data.toList.take k) 0 1000 (by rw[List.length_take];simp;omega)
    exact Nat.le_trans h1 (Nat.mul_le_mul (by rw[List.length_take];simp;omega) (by decide))
   have HS:Hid (sumFrom 0 (s.data.toList.take (k+1))=sumFrom 0 (s.data.toList.take k)+(k+1) * s[k].toNat):=by
    rw[take_byte s k hlt,sumFrom_append,List.length_take,Nat.zero_add,Nat.min_eq_left (by simp;omega)]
    exact rfl
   have hmul:(k+1) * s[k].toNat≤1000 * 255:=Nat.mul_le_mul (by omega) (by omega)
   generalize hm:sumFrom 0 (s.data.toList.take k)=m at *
   obtain⟨pr,hpr⟩:∃ pr,pr=(k+1) * s[k].toNat:=⟨_,rfl⟩
   rw[← hpr]at HS hmul
   clear hm
   have hp:((k:Int)+1) * (s[k].toNat:Int)=(pr:Int):=by rw[hpr];simp
   have hv:wrap64 ((m:Int)+wrap64 (((k:Int)+1) * wrap64 (s[k].toNat:Int)))=((m+pr:Nat):Int):=by
    have h1:wrap64 (pr:Int)=(pr:Int):=by unfold wrap64;omega
    rw[w_id (by omega),hp,h1,w_add (by omega)]
   have HV:=Lib.hid hv
   clear hpr hbb hp hv
   go_wp2
   rw[HV.out]
   go_round
   case rel=>exact⟨k+1,by omega,by go_num,by rw[HS.out]⟩
   case measure=>simp[intOf];omega
  ·go_wp2
   go_ret
   exact⟨by rw[List.take_of_length_le (by simp;omega)];rfl,rfl⟩
theorem weigh_any(s:ByteArray)(hs:s.size≤1000)(w:World) :
  Calls Tryz.prog 164 #[.string s] w fun e w'=>e = .returned (.int .i64 (weighL s.data.toList:Int))∧NewMem w w':=
 (weigh_eq s hs w).mono fun e w' ⟨he,hw⟩=>⟨he,by rw[hw];exact NewMem.refl _⟩
theorem byteCells_snoc(l:List UInt8)(b:UInt8):Lib.byteCells (l ++ [b])=Lib.byteCells l ++ [.int .u8 (b.toNat:Int)]:=by simp[Lib.byteCells]
theorem info_byte:(Tryz.prog.info? 5).map (fun i=>(i.zero,i.size,i.bytes))=some (some (.int .u8 0),1,1):=by kernel_rfl
set_option maxHeartbeats 4000000 in
set_option maxRecDepth 100000 in
theorem put_any(xs:List UInt8)(v:Value)(base:Nat)(n k:Nat)(w:World)(h:w.ownsRow base 5 1 v xs.length (Lib.byteCells xs))(hB:base≤w.heap.size)(hxs:xs.length≤1000)(hk:k≤7)(hn:n < 9223372036854775808) :
  Calls Tryz.prog 163 #[v,.int .i64 (n:Int),.int .i64 (k:Int)] w fun e w'=>∃ v',e = .returned v'∧w'.ownsRow base 5 1 v' (xs++beL k n).length (Lib.byteCells (xs++beL k n))∧Below base w w':=by
 obtain⟨i0,hi,hz0,hz1,hz2⟩:=info_parts info_byte
 have H:=Lib.hid h
 clear h
 go_enter Tryz.func163,Tryz.ntmps163
 go_wp2
 go_loopw [0,9] (fun v i wr=>∃ j:Nat,j≤k∧i = .int .i64 (j:Int)∧wr.ownsRow base 5 1 v (xs++(beL k n).take j).length (Lib.byteCells (xs++(beL k n).take j))∧Below base w wr) (fun _ i _=>k - (intOf i).toNat)
 case atStart=>exact⟨0,Nat.zero_le _,rfl,by simpa using H.out,Below.refl _ _⟩
 case round=>
  obtain⟨j,hj,rfl,hown,hb⟩:=hrel
  by_cases hlt:j < k
  ·have hbj:=beL_at k n j hlt
   obtain⟨y,hy⟩:∃ y:UInt8,y=UInt8.ofNat (n / 256 ^ (k - 1 - j) % 256):=⟨_,rfl⟩
   rw[← hy]at hbj
   have hsn:(beL k n).take (j+1)=(beL k n).take j ++ [y]:=by rw[List.take_add_one,hbj];rfl
   have hsh:(n:Int) / 2 ^ (8 * (k - 1 - j)) % 256=(y.toNat:Int):=by
    have e:(2:Int) ^ (8 * (k - 1 - j))=((256 ^ (k - 1 - j):Nat):Int):=by
     rw[show(256:Nat)=2 ^ 8 by decide,← Nat.pow_mul];simp
    rw[hy,e]
    have:(UInt8.ofNat (n / 256 ^ (k - 1 - j) % 256)).toNat=n / 256 ^ (k - 1 - j) % 256:=by simp
    rw[this]
    simp
   have HSN:=Lib.hid hsn
   clear hbj hsn hy
   generalize hl:(beL k n).take j=l at *
   have hll:l.length≤7:=by rw[← hl,List.length_take];omega
   have HB:=Lib.hid hb
   have HL:=Lib.hid hl
   clear hb hl
   go_wp2_with (at_builtin;refine wpList_append_own _ rfl _ _ 129 rfl base 5 i0 (.int .u8 0) 1 1 Tryz.underlying129 hi hz0 hz1 hz2 rfl (by decide) _ _ _ rfl (hown.alloc _) ⟨wr.heap.size,0,none⟩ 1 1 [.int .u8 (y.toNat:Int)] rfl rfl ?c1 ?c2 ?c3 ?c4 ?c5 ?_)
   case c1=>
    intro m u hu
    match m,hu with
    | 0,hu=>simp at hu;subst hu;simp[Addr.add]
   case c2=>intro u hu;simp at hu;subst hu;rfl
   case c3=>unfold maxLen;rw[List.length_append];omega
   case c4=>rw[List.length_append];omega
   case c5=>have:=HB.out.size;simp;omega
   intro v' w2 hown' hgrow _
   have hb2:Below base w w2:=(HB.out.alloc (by have:=HB.out.size;omega) _).grown hgrow (by have:=HB.out.size;simp;omega) (fun k hk=>(hown.lt k hk).1)
   have hown2:w2.ownsRow base 5 1 v' (xs++(beL k n).take (j+1)).length (Lib.byteCells (xs++(beL k n).take (j+1))):=by
    rw[HSN.out,← List.append_assoc,byteCells_snoc,List.length_append,List.length_append,List.length_singleton]
    exact hown'
   have HB2:=Lib.hid hb2
   have HO2:=Lib.hid hown2
   clear hb2 hown2 hown' hgrow hown
   go_wp2
   go_roundw
   case rel=>exact⟨j+1,by omega,by go_num,HO2.out,HB2.out⟩
   case measure=>simp[intOf];omega
  ·have hjk:j=k:=by omega
   rw[hjk,List.take_of_length_le (by rw[beL_len];exact Nat.le_refl _)]at hown
   have HO:=Lib.hid hown
   have HB:=Lib.hid hb
   clear hown hb
   go_wp2
   go_ret
   exact⟨_,rfl,HO.out,HB.out⟩
end Go.Proofs.YtlmabbigfdbmbaaGreatDoor.Tape
namespace Go.Proofs
open Go.Shelf
def Tryz.lays156_ren:Go.Shelf.Ren:=⟨fun | 156=>160 | 165=>191 | 166=>151 | 169=>114 | 240=>178 | 241=>207 | 276=>199 | 277=>220 | n=>n,fun | 31=>25 | 9=>9 | 3=>3 | 4=>4 | 0=>0 | 20=>20 | 72=>202 | 76=>246 | 70=>200 | 37=>129 | 75=>245 | 127=>248 | 164=>304 | 5=>5 | 80=>158 | n=>n,fun | n=>n⟩
theorem Tryz.lays156:Go.Proofs.Lays.n156 Tryz.prog Tryz.lays156_ren:={
 mixed:=by kernel_rfl
 f156:=Tryz.func160.trans (congrArg some (by kernel_rfl))
 f165:=Tryz.func191.trans (congrArg some (by kernel_rfl))
 f166:=Tryz.func151.trans (congrArg some (by kernel_rfl))
 f169:=Tryz.func114.trans (congrArg some (by kernel_rfl))
 f240:=Tryz.func178.trans (congrArg some (by kernel_rfl))
 f241:=Tryz.func207.trans (congrArg some (by kernel_rfl))
 f276:=Tryz.func199.trans (congrArg some (by kernel_rfl))
 f277:=Tryz.func220.trans (congrArg some (by kernel_rfl))
 t0:=Tryz.underlying0
 a0:=Tryz.isAgg0
 z0:=Tryz.sizeOf0
 v0:=Tryz.zeroValue0
 t3:=Tryz.underlying3
 a3:=Tryz.isAgg3
 z3:=Tryz.sizeOf3
 v3:=Tryz.zeroValue3
 t4:=Tryz.underlying4
 a4:=Tryz.isAgg4
 z4:=Tryz.sizeOf4
 v4:=Tryz.zeroValue4
 t9:=Tryz.underlying9
 a9:=Tryz.isAgg9
 z9:=Tryz.sizeOf9
 v9:=Tryz.zeroValue9
 t20:=Tryz.underlying20
 a20:=Tryz.isAgg20
 z20:=Tryz.sizeOf20
 v20:=Tryz.zeroValue20
 t31:=Tryz.underlying25
 a31:=Tryz.isAgg25
 z31:=Tryz.sizeOf25
 v31:=Tryz.zeroValue25
 t37:=Tryz.underlying129
 a37:=Tryz.isAgg129
 z37:=Tryz.sizeOf129
 v37:=Tryz.zeroValue129
 t70:=Tryz.underlying200
 a70:=Tryz.isAgg200
 z70:=Tryz.sizeOf200
 v70:=Tryz.zeroValue200
 t72:=Tryz.underlying202
 a72:=Tryz.isAgg202
 z72:=Tryz.sizeOf202
 v72:=Tryz.zeroValue202
 t75:=Tryz.underlying245
 a75:=Tryz.isAgg245
 z75:=Tryz.sizeOf245
 v75:=Tryz.zeroValue245
 t76:=Tryz.underlying246
 a76:=Tryz.isAgg246
 z76:=Tryz.sizeOf246
 v76:=Tryz.zeroValue246
 t127:=Tryz.underlying248
 a127:=Tryz.isAgg248
 z127:=Tryz.sizeOf248
 v127:=Tryz.zeroValue248
 t164:=Tryz.underlying304
 a164:=Tryz.isAgg304
 z164:=Tryz.sizeOf304
 v164:=Tryz.zeroValue304 }
theorem Tryz.Builder_Extra_156:Builder.Extra Tryz.prog Tryz.lays156_ren:={
 sizeBuilder:=by kernel_rfl
 liesBuilder:=by kernel_rfl
 t5:=Tryz.underlying5
 a5:=Tryz.isAgg5
 z5:=Tryz.sizeOf5
 v5:=Tryz.zeroValue5
 infoByte:=by kernel_rfl
 cellsByte:=by kernel_rfl
 sizeByte:=by kernel_rfl
 neB5:=by decide }
open Go.RowKit in
theorem Tryz.strings_Join(bk o c:Nat)(xs:List ByteArray)(sep:ByteArray)(w:World)(hcells:∀ (j:Nat) x,xs[j]? = some x→w.cell? ⟨bk,o+j,none⟩=some (.string x))(hbk:bk < w.heap.size)(hN:xs.length≤140737488355328)(hcap:xs.length≤c)(hlen:(Lib.join (xs.map (·.data.toList)) sep.data.toList).length≤140737488355328) :
  Calls Tryz.prog 160 #[.slice (some ⟨bk,o,none⟩) xs.length c,.string sep] w fun e w'=>e = .returned (.string ⟨(Lib.join (xs.map (·.data.toList)) sep.data.toList).toArray⟩)∧Below w.heap.size w w':=Any.strings_Join Tryz.lays156 Tryz.Builder_Extra_156 bk o c xs sep w hcells hbk hN hcap hlen
def Tryz.lays160_ren:Go.Shelf.Ren:=⟨fun | 160=>206 | 232=>214 | 231=>213 | 227=>215 | 234=>217 | 233=>216 | 236=>219 | 235=>218 | 228=>224 | 271=>227 | 151=>226 | 197=>225 | 120=>232 | 152=>231 | 260=>230 | 137=>233 | 119=>234 | 224=>235 | 225=>236 | 217=>237 | 266=>238 | n=>n,fun | 9=>9 | 4=>4 | 3=>3 | 5=>5 | 117=>317 | 116=>316 | 0=>0 | 124=>320 | 21=>21 | 105=>326 | 46=>146 | 119=>334 | 139=>337 | 138=>336 | n=>n,fun | 3=>1 | 4=>2 | n=>n⟩
theorem Tryz.lays160:Go.Proofs.Lays.n160 Tryz.prog Tryz.lays160_ren:={
 mixed:=by kernel_rfl
 f119:=Tryz.func234.trans (congrArg some (by kernel_rfl))
 f120:=Tryz.func232.trans (congrArg some (by kernel_rfl))
 f137:=Tryz.func233.trans (congrArg some (by kernel_rfl))
 f151:=Tryz.func226.trans (congrArg some (by kernel_rfl))
 f152:=Tryz.func231.trans (congrArg some (by kernel_rfl))
 f160:=Tryz.func206.trans (congrArg some (by kernel_rfl))
 f197:=Tryz.func225.trans (congrArg some (by kernel_rfl))
 f217:=Tryz.func237.trans (congrArg some (by kernel_rfl))
 f224:=Tryz.func235.trans (congrArg some (by kernel_rfl))
 f225:=Tryz.func236.trans (congrArg some (by kernel_rfl))
 f227:=Tryz.func215.trans (congrArg some (by kernel_rfl))
 f228:=Tryz.func224.trans (congrArg some (by kernel_rfl))
 f231:=Tryz.func213.trans (congrArg some (by kernel_rfl))
 f232:=Tryz.func214.trans (congrArg some (by kernel_rfl))
 f233:=Tryz.func216.trans (congrArg some (by kernel_rfl))
 f234:=Tryz.func217.trans (congrArg some (by kernel_rfl))
 f235:=Tryz.func218.trans (congrArg some (by kernel_rfl))
 f236:=Tryz.func219.trans (congrArg some (by kernel_rfl))
 f260:=Tryz.func230.trans (congrArg some (by kernel_rfl))
 f266:=Tryz.func238.trans (congrArg some (by kernel_rfl))
 f271:=Tryz.func227.trans (congrArg some (by kernel_rfl))
 t0:=Tryz.underlying0
 a0:=Tryz.isAgg0
 z0:=Tryz.sizeOf0
 v0:=Tryz.zeroValue0
 t3:=Tryz.underlying3
 a3:=Tryz.isAgg3
 z3:=Tryz.sizeOf3
 v3:=Tryz.zeroValue3
 t4:=Tryz.underlying4
 a4:=Tryz.isAgg4
 z4:=Tryz.sizeOf4
 v4:=Tryz.zeroValue4
 t5:=Tryz.underlying5
 a5:=Tryz.isAgg5
 z5:=Tryz.sizeOf5
 v5:=Tryz.zeroValue5
 t9:=Tryz.underlying9
 a9:=Tryz.isAgg9
 z9:=Tryz.sizeOf9
 v9:=Tryz.zeroValue9
 t21:=Tryz.underlying21
 a21:=Tryz.isAgg21
 z21:=Tryz.sizeOf21
 v21:=Tryz.zeroValue21
 t46:=Tryz.underlying146
 a46:=Tryz.isAgg146
 z46:=Tryz.sizeOf146
 v46:=Tryz.zeroValue146
 t105:=Tryz.underlying326
 a105:=Tryz.isAgg326
 z105:=Tryz.sizeOf326
 v105:=Tryz.zeroValue326
 t116:=Tryz.underlying316
 a116:=Tryz.isAgg316
 z116:=Tryz.sizeOf316
 t117:=Tryz.underlying317
 a117:=Tryz.isAgg317
 z117:=Tryz.sizeOf317
 v117:=Tryz.zeroValue317
 t119:=Tryz.underlying334
 a119:=Tryz.isAgg334
 z119:=Tryz.sizeOf334
 t124:=Tryz.underlying320
 a124:=Tryz.isAgg320
 z124:=Tryz.sizeOf320
 v124:=Tryz.zeroValue320
 t138:=Tryz.underlying336
 a138:=Tryz.isAgg336
 z138:=Tryz.sizeOf336
 v138:=Tryz.zeroValue336
 t139:=Tryz.underlying337
 a139:=Tryz.isAgg337
 z139:=Tryz.sizeOf337
 v139:=Tryz.zeroValue337
 g3:=by kernel_rfl
 g4:=by kernel_rfl }
open Go.RowKit in
theorem Tryz.strings_Trim_one(s:ByteArray)(c:UInt8)(hc:c.toNat < 128)(w:World)(hs:s.size≤9223372036854775807) :
  Calls Tryz.prog 206 #[.string s,.string ⟨#[c]⟩] w fun e w'=>e = .returned (.string ⟨(Lib.trimB s.data.toList c).toArray⟩)∧(w'=w∨w'=w.drew):=Any.strings_Trim_one Tryz.lays160 s c hc w hs
def Tryz.lays260_ren:Go.Shelf.Ren:=⟨fun | 260=>230 | n=>n,fun | 9=>9 | 21=>21 | 3=>3 | 4=>4 | 5=>5 | 119=>334 | 0=>0 | 46=>146 | 139=>337 | 138=>336 | n=>n,fun | 3=>1 | 4=>2 | n=>n⟩
theorem Tryz.lays260:Go.Proofs.Lays.n260 Tryz.prog Tryz.lays260_ren:={
 mixed:=by kernel_rfl
 f260:=Tryz.func230.trans (congrArg some (by kernel_rfl))
 t0:=Tryz.underlying0
 a0:=Tryz.isAgg0
 z0:=Tryz.sizeOf0
 v0:=Tryz.zeroValue0
 t3:=Tryz.underlying3
 a3:=Tryz.isAgg3
 z3:=Tryz.sizeOf3
 v3:=Tryz.zeroValue3
 t4:=Tryz.underlying4
 a4:=Tryz.isAgg4
 z4:=Tryz.sizeOf4
 v4:=Tryz.zeroValue4
 t5:=Tryz.underlying5
 a5:=Tryz.isAgg5
 z5:=Tryz.sizeOf5
 v5:=Tryz.zeroValue5
 t9:=Tryz.underlying9
 a9:=Tryz.isAgg9
 z9:=Tryz.sizeOf9
 v9:=Tryz.zeroValue9
 t21:=Tryz.underlying21
 a21:=Tryz.isAgg21
 z21:=Tryz.sizeOf21
 v21:=Tryz.zeroValue21
 t46:=Tryz.underlying146
 a46:=Tryz.isAgg146
 z46:=Tryz.sizeOf146
 v46:=Tryz.zeroValue146
 t119:=Tryz.underlying334
 a119:=Tryz.isAgg334
 z119:=Tryz.sizeOf334
 t138:=Tryz.underlying336
 a138:=Tryz.isAgg336
 z138:=Tryz.sizeOf336
 v138:=Tryz.zeroValue336
 t139:=Tryz.underlying337
 a139:=Tryz.isAgg337
 z139:=Tryz.sizeOf337
 v139:=Tryz.zeroValue337
 g3:=by kernel_rfl
 g4:=by kernel_rfl }
def Tryz.lays197_ren:Go.Shelf.Ren:=⟨fun | 197=>225 | 260=>230 | n=>n,fun | 9=>9 | 21=>21 | 3=>3 | 4=>4 | 5=>5 | 105=>326 | 119=>334 | 0=>0 | 46=>146 | 139=>337 | 138=>336 | n=>n,fun | 3=>1 | 4=>2 | n=>n⟩
theorem Tryz.lays197:Go.Proofs.Lays.n197 Tryz.prog Tryz.lays197_ren:={
 mixed:=by kernel_rfl
 f197:=Tryz.func225.trans (congrArg some (by kernel_rfl))
 f260:=Tryz.func230.trans (congrArg some (by kernel_rfl))
 t0:=Tryz.underlying0
 a0:=Tryz.isAgg0
 z0:=Tryz.sizeOf0
 v0:=Tryz.zeroValue0
 t3:=Tryz.underlying3
 a3:=Tryz.isAgg3
 z3:=Tryz.sizeOf3
 v3:=Tryz.zeroValue3
 t4:=Tryz.underlying4
 a4:=Tryz.isAgg4
 z4:=Tryz.sizeOf4
 v4:=Tryz.zeroValue4
 t5:=Tryz.underlying5
 a5:=Tryz.isAgg5
 z5:=Tryz.sizeOf5
 v5:=Tryz.zeroValue5
 t9:=Tryz.underlying9
 a9:=Tryz.isAgg9
 z9:=Tryz.sizeOf9
 v9:=Tryz.zeroValue9
 t21:=Tryz.underlying21
 a21:=Tryz.isAgg21
 z21:=Tryz.sizeOf21
 v21:=Tryz.zeroValue21
 t46:=Tryz.underlying146
 a46:=Tryz.isAgg146
 z46:=Tryz.sizeOf146
 v46:=Tryz.zeroValue146
 t105:=Tryz.underlying326
 a105:=Tryz.isAgg326
 z105:=Tryz.sizeOf326
 v105:=Tryz.zeroValue326
 t119:=Tryz.underlying334
 a119:=Tryz.isAgg334
 z119:=Tryz.sizeOf334
 t138:=Tryz.underlying336
 a138:=Tryz.isAgg336
 z138:=Tryz.sizeOf336
 v138:=Tryz.zeroValue336
 t139:=Tryz.underlying337
 a139:=Tryz.isAgg337
 z139:=Tryz.sizeOf337
 v139:=Tryz.zeroValue337
 g3:=by kernel_rfl
 g4:=by kernel_rfl }
open Go.RowKit Go.Lib in
theorem Tryz.utf8_DecodeRuneInString(s:ByteArray)(w:World)(hT:Lib.Utf8Tabs 1 2 w) :
  Calls Tryz.prog 225 #[.string s] w fun e w'=>e = .returned (.tuple #[.int .i32 (Lib.decodeGo s).1,.int .i64 (Lib.decodeGo s).2])∧Below w.heap.size w w':=Any.utf8_DecodeRuneInString Tryz.lays197 s w hT
end Go.Proofs
