/- Texts of one proof, joined: QH, QJ, QK, QL, QM, QOE, QOF. -/
import Derived.Test.YtlmabbigfdbmbaaGreatDoorYf
import Derived.Test.YtlmabbigfdbmbaaGreatDoorYc
import Derived.Lib.ConvBytes
import Derived.Laws.BitsAllLaws
import Derived.Defers
import Derived.Recover
import Derived.Laws.Pointers
import Derived.Tactics2
import Derived.Maps.AppendAt
import Derived.Test.YtlmabbigfdbmbaaGreatDoorYb
import Derived.Laws.MakeOwn
set_option linter.unusedSimpArgs false
set_option linter.unusedVariables false
namespace Go.Proofs.YtlmabbigfdbmbaaGreatDoor.PShelfNil
open Go.RowKit Go.Proofs.YtlmabbigfdbmbaaGreatDoor.Ord Go.Proofs.YtlmabbigfdbmbaaGreatDoorW.PrintWords Go.Proofs.YtlmabbigfdbmbaaGreatDoorW.PrintLast Go.Proofs.YtlmabbigfdbmbaaGreatDoorW.PrintMore
attribute [local irreducible] OpGives
attribute [local go_sem] rdl_const rdl_func rdl_global rdl_nil rdl_cons
theorem ext0(s:ByteArray)(p:Nat)(hp:p < s.size)(h:0 < (s.extract p (p+1)).size):((s.extract p (p+1))[0]'h).toNat=byteAt s p:=by
 have h1:(s.extract p (p+1)).data=s.data.extract p (p+1):=by simp
 have h2:p < s.data.size:=hp
 have e:(s.extract p (p+1))[0]'h=(s.extract p (p+1)).data[0]'h:=rfl
 rw[e]
 simp only[h1]
 unfold byteAt
 rw[Array.getElem_extract]
 simp[h2,Array.getElem?_eq_getElem h2]
theorem meth_number(v:Bool)(w:World):(method 209 285 (.agg #[.bool v]) "fasti/cell.most").run Tryz.prog w = .ok (264,.agg #[.bool v]) w:=by kernel_rfl
theorem meth_word(w:World):(method 209 287 (.agg #[]) "fasti/cell.most").run Tryz.prog w = .ok (265,.agg #[]) w:=by kernel_rfl
theorem meth_row(w:World):(method 209 306 (.agg #[]) "fasti/cell.most").run Tryz.prog w = .ok (266,.agg #[]) w:=by kernel_rfl
theorem ext_at(s:ByteArray)(p n j:Nat)(h:p+n≤s.size)(hj:j < n):((s.extract p (p+n)).data.toList.getD j 0).toNat=byteAt s (p+j):=by
 have h1:(s.extract p (p+n)).data=s.data.extract p (p+n):=by simp
 have h2:p+j < s.data.size:=by have:s.data.size=s.size:=rfl;omega
 rw[h1]
 unfold byteAt
 simp[List.getD_eq_getElem?_getD,Array.getElem?_extract,h2,hj]
theorem numAt_lt(s:ByteArray)(p:Nat):∀ n,numAt s p n < 256 ^ n
 | 0=>by simp[numAt]
 | n+1=>by
  have:=numAt_lt s p n
  have hb:byteAt s (p+n) < 256:=UInt8.toNat_lt _
  rw[numAt,Nat.pow_succ];omega
theorem or_byte(s:ByteArray)(p j:Nat)(hj:j≤7):bits BinOp.or IntKind.u64 ((numAt s p j:Int) * 256) (byteAt s (p+j):Int)=(numAt s p (j+1):Int):=by
 have h1:=numAt_lt s p j
 have h2:256 ^ j≤256 ^ 7:=Nat.pow_le_pow_right (by decide) hj
 have h7:(256:Nat) ^ 7=72057594037927936:=by decide
 have hb:byteAt s (p+j) < 256:=UInt8.toNat_lt _
 have e:=u64_or_nat (numAt s p j * 256) (byteAt s (p+j)) (by omega) (by omega)
 rw[Int.natCast_mul]at e
 rw[show((numAt s p j:Int) * 256)=(numAt s p j:Int) * ((256:Nat):Int)by rfl,e,numAt]
 congr 1
 have:=Nat.two_pow_add_eq_or_of_lt (i:=8) (b:=byteAt s (p+j)) (by omega) (numAt s p j)
 rw[Nat.mul_comm (numAt s p j) 256]
 exact this.symm
theorem below_bytes(w:World)(e:TypeId)(s:ByteArray):Below w.heap.size w (Lib.bytesWorld w e s):=
 ⟨rfl,rfl,rfl,by rw[Lib.bytesWorld_size];omega,fun k hk=>Lib.bytesWorld_at_old w e s k hk⟩
theorem as_num(v:Bool)(W:World):(Instr.typeAssert (.iface 285 (.agg #[.bool v])) 279 285 true).run Tryz.prog W = .ok (.tuple #[.agg #[.bool v],.bool true]) W:=by kernel_rfl
theorem as_word1(W:World):(Instr.typeAssert (.iface 287 (.agg #[])) 279 285 true).run Tryz.prog W = .ok (.tuple #[.agg #[.bool false],.bool false]) W:=by kernel_rfl
theorem as_word2(W:World):(Instr.typeAssert (.iface 287 (.agg #[])) 279 287 true).run Tryz.prog W = .ok (.tuple #[.agg #[],.bool true]) W:=by kernel_rfl
theorem as_row1(W:World):(Instr.typeAssert (.iface 306 (.agg #[])) 279 285 true).run Tryz.prog W = .ok (.tuple #[.agg #[.bool false],.bool false]) W:=by kernel_rfl
theorem as_row2(W:World):(Instr.typeAssert (.iface 306 (.agg #[])) 279 287 true).run Tryz.prog W = .ok (.tuple #[.agg #[],.bool false]) W:=by kernel_rfl
theorem four_put{W:World}{g:Nat}{ty:TypeId}{a b c d:Value}(h:W.heap[g]? = some (.cells #[a,b,c,d] ty (0,0)))(a' b' c' d':Value) :
  ((((W.setCell ⟨g,0,none⟩ a').setCell ⟨g,1,none⟩ b').setCell ⟨g,2,none⟩ c').setCell ⟨g,3,none⟩ d').heap[g]? = some (.cells #[a',b',c',d'] ty (0,0)):=
 blk_put (cs:=#[a',b',c',d]) (blk_put (cs:=#[a',b',c,d]) (blk_put (cs:=#[a',b,c,d]) (blk_put (cs:=#[a,b,c,d]) h 0 _ rfl) 1 _ rfl) 2 _ rfl) 3 _ rfl
theorem fin_cell{b:Nat}{s:ByteArray}{q:Nat}{w W:World}{base:Nat}{v:Value}{xs:List S32}(hb:b < w.heap.size)(hm:ModB b w W)(hr:RdAt b s q W)(hbase:w.heap.size < base)
  (hR:Kd.R k32 32 W base (fun k=>k≠b) v xs) (u0 u1 u2 u3:Value) :
  ModB b w ((((W.setCell ⟨w.heap.size,0,none⟩ u0).setCell ⟨w.heap.size,1,none⟩ u1).setCell ⟨w.heap.size,2,none⟩ u2).setCell ⟨w.heap.size,3,none⟩ u3)∧
  RdAt b s q ((((W.setCell ⟨w.heap.size,0,none⟩ u0).setCell ⟨w.heap.size,1,none⟩ u1).setCell ⟨w.heap.size,2,none⟩ u2).setCell ⟨w.heap.size,3,none⟩ u3)∧
  Kd.R k32 32 ((((W.setCell ⟨w.heap.size,0,none⟩ u0).setCell ⟨w.heap.size,1,none⟩ u1).setCell ⟨w.heap.size,2,none⟩ u2).setCell ⟨w.heap.size,3,none⟩ u3) w.heap.size (fun k=>k≠b) v xs:=by
 have h1:Kd.R k32 32 W base (fun k=>k≠b∧base≤k) v xs:=Kd.R_mono (Kd.R_bound hR) (fun k hk=>⟨hk.1,hk.2.1⟩)
 have hne:∀ k,(k≠b∧base≤k)→k≠w.heap.size:=fun k hk=>by omega
 have h2:=Kd.R_far (p:=⟨w.heap.size,0,none⟩) h1 hne u0
 have h3:=Kd.R_far (p:=⟨w.heap.size,1,none⟩) h2 hne u1
 have h4:=Kd.R_far (p:=⟨w.heap.size,2,none⟩) h3 hne u2
 have h5:=Kd.R_far (p:=⟨w.heap.size,3,none⟩) h4 hne u3
 exact⟨(((hm.put _ (Nat.le_refl _) _ _).put _ (Nat.le_refl _) _ _).put _ (Nat.le_refl _) _ _).put _ (Nat.le_refl _) _ _,
  (((hr.put _ (by omega) _ _).put _ (by omega) _ _).put _ (by omega) _ _).put _ (by omega) _ _,
  Kd.R_mono (Kd.R_lower h5 (Nat.le_of_lt hbase)) (fun k hk=>hk.1)⟩
theorem byteAt_lt(s:ByteArray)(p:Nat):byteAt s p < 256:=UInt8.toNat_lt _
theorem firstV_bad{c:Nat}(h:c / 16 < 1∨4 < c / 16):firstV c = .nilIface:=by
 unfold firstV
 rw[if_neg (by omega),if_neg (by omega),if_neg (by omega),if_neg (by omega)]
set_option maxHeartbeats 16000000 in
set_option maxRecDepth 100000 in
theorem cell_step(d:Nat)(hd:d≤40)(s:ByteArray)(hs:s.size≤140737488355328)(b:Nat)(g:Nat→DR S32)
  (ih:0 < d→∀ (p:Nat) (w:World),RdAt b s p w→p≤s.size→Calls Tryz.prog 155 #[.pointer (some ⟨b,0,none⟩),.int .i64 ((d:Int) - 1)] w (CellPost (g p) b s p w))
  (p:Nat) (w:World) (h:RdAt b s p w) (hp:p≤s.size) :
  Calls Tryz.prog 155 #[.pointer (some ⟨b,0,none⟩),.int .i64 (d:Int)] w (CellPost (cellW s (decide (0 < d)) g p) b s p w):=by
 have hbl:b < w.heap.size:=(Array.getElem?_eq_some_iff.1 h).1
 obtain⟨W1,hW1⟩:∃ W1,W1=w.alloc (.cells #[.int .i64 0,.int .i64 0,.string (⟨#[]⟩:ByteArray),.slice none 0 0] 32):=⟨_,rfl⟩
 have hn1:Below w.heap.size w W1:=by rw[hW1];exact(Below.refl _ _).alloc (Nat.le_refl _) _
 have hr1:=h.kept hn1
 have hn1':=hn1
 have hg1:W1.heap[w.heap.size]? = some (.cells #[.int .i64 0,.int .i64 0,.string (⟨#[]⟩:ByteArray),.slice none 0 0] 32 (0,0)):=by rw[hW1];exact heap_alloc_last _ _
 have HG1:=Lib.hid hg1
 have HBL:=Lib.hid hbl
 have c1:(w.alloc (.cells #[.int .i64 0,.int .i64 0,.string (⟨#[]⟩:ByteArray),.slice none 0 0] 32)).cell? ⟨b,1,none⟩=some (.int .i64 (p:Int)):=by rw[← hW1,Lib.cell_of_heap hr1];rfl
 have HR1:=Lib.hid hr1
 have HN1:=Lib.hid hn1
 have HW1:=Lib.hid hW1
 have hx:∀ W,ModB b W1 W→ModB b w W:=fun W hm=>(ModB.of_below hn1').trans hm
 have HX:=Lib.hid hx
 have HIH:=Lib.hid ih
 have H:=Lib.hid h
 clear h hr1 hn1 hW1 ih hx hn1' hg1
 obtain⟨r,hr⟩:∃ r,r=cellW s (decide (0 < d)) g p:=⟨_,rfl⟩
 rw[← hr]
 unfold cellW at hr
 have HR:=Lib.hid hr
 clear hr
 go_enter Tryz.func155,Tryz.ntmps155
 go_wp2_with fail
 rw[← HW1.out]
 by_cases hsh:s.size < p+1
 ·refine(bytes_no b s p 1 W1 HR1.out hs hp hsh (by decide)).mono ?_
  rintro e W2 ⟨rfl,_,hm⟩
  have e0:r = .bad s.size 3:=by rw[HR.out,if_pos hsh]
  rw[e0]
  exact⟨rfl,(ModB.of_below HN1.out).trans hm,rfl⟩
 ·have hr:=HR.out
  rw[if_neg hsh]at hr
  have HR2:=Lib.hid hr
  clear HR hr
  refine(bytes_ok b s p 1 W1 HR1.out hs (by omega)).mono ?_
  rintro e W2 ⟨rfl,hr2,hm2⟩
  have HRD2:=Lib.hid hr2
  have HM2:=Lib.hid hm2
  clear hr2 hm2 HR1
  go_wp2_with fail
  rw[ext0 s p (by omega)]
  have hc256:=byteAt_lt s p
  obtain⟨c,hc⟩:∃ c,c=byteAt s p:=⟨_,rfl⟩
  rw[← hc]at hc256 ⊢
  have hr:=HR2.out
  rw[← hc]at hr
  have HC:=Lib.hid hc
  have HR:=Lib.hid hr
  clear hc hr HR2
  refine(first_calls c W2 hc256).mono ?_
  rintro e W ⟨rfl,rfl⟩
  by_cases hbad:c / 16 < 1∨4 < c / 16
  ·rw[firstV_bad hbad]
   go_wp2_with fail
   refine(need_no _ _ _).mono ?_
   rintro e W' ⟨rfl,rfl⟩
   have e0:r = .bad p 4:=by rw[HR.out];exact if_pos hbad
   rw[e0]
   exact⟨rfl,HX.out _ HM2.out,rfl⟩
  ·have hr:=HR.out
   rw[if_neg hbad]at hr
   have HR3:=Lib.hid hr
   clear HR hr
   have hk:c / 16=1∨c / 16=2∨c / 16=3∨c / 16=4:=by omega
   clear hbad
   have m1:=meth_number
   have m2:=meth_word
   have m3:=meth_row
   rcases hk with hk | hk | hk | hk
   ·have hv:firstV c = .iface 285 (.agg #[.bool false]):=by unfold firstV;rw[if_pos hk]
    have hmost:=most_number false
    have hw8:widthOf (c / 16)=8:=by rw[hk];rfl
    have hm8:mostOf (c / 16)=9223372036854775807:=by rw[hk];rfl
    rw[hv]
    have HMO:=Lib.hid hmost
    clear hmost hv
    go_wp2_with fail
    refine(need_ok _ _ _).mono ?_
    rintro e W' ⟨rfl,rfl⟩
    go_wp2_with fail
    refine(HMO.out _).mono ?_
    rintro e W3 ⟨rfl,hb3⟩
    have hr3:=HRD2.out.kept hb3
    have hm3:=HM2.out.trans (ModB.of_below hb3)
    have HRD3:=Lib.hid hr3
    have HM3:=Lib.hid hm3
    have hsz3:=hb3.size
    clear hb3 hr3 hm3 HRD2 HM2 m1 m2 m3
    go_wp2_with fail
    obtain⟨n,hn⟩:∃ n,n=c % 16:=⟨_,rfl⟩
    rw[show(c:Int) % 16=(n:Int)by omega]
    have hr:=HR3.out
    rw[← hn,hw8,hm8]at hr
    have HR:=Lib.hid hr
    have hn16:n≤15:=by omega
    have HN:=Lib.hid hn
    have HW8:=Lib.hid hw8
    have HK:=Lib.hid hk
    clear hr HR3 hn hw8 hm8 hk
    by_cases hwd:8 < n
    ·rw[decide_eq_false (by omega:¬ (n:Int)≤8)]
     refine(need_no _ _ _).mono ?_
     rintro e W' ⟨rfl,rfl⟩
     have e0:r = .bad p 4:=by rw[HR.out];exact if_pos hwd
     rw[e0]
     exact⟨rfl,HX.out _ HM3.out,rfl⟩
    ·rw[decide_eq_true (by omega:(n:Int)≤8)]
     have hr:=HR.out
     rw[if_neg hwd]at hr
     have HR:=Lib.hid hr
     clear hr
     refine(need_ok _ _ _).mono ?_
     rintro e W' ⟨rfl,rfl⟩
     go_wp2_with fail
     by_cases hd0:0 < d
     ·have hr:=HR.out
      rw[if_neg (by rw[decide_eq_true hd0];decide)]at hr
      have HR:=Lib.hid hr
      clear hr
      rw[decide_eq_true hd0]
      refine(need_ok _ _ _).mono ?_
      rintro e W' ⟨rfl,rfl⟩
      go_wp2_with fail
      by_cases hsh2:s.size < p+1+n
      ·refine(bytes_no b s (p+1) n W' HRD3.out hs (by omega) hsh2 (by omega)).mono ?_
       rintro e W4 ⟨rfl,_,hm⟩
       have e0:r = .bad s.size 3:=by rw[HR.out];exact if_pos hsh2
       rw[e0]
       exact⟨rfl,HX.out _ (HM3.out.trans hm),rfl⟩
      ·have hr:=HR.out
       rw[if_neg hsh2]at hr
       have HR:=Lib.hid hr
       clear hr
       refine(bytes_ok b s (p+1) n W' HRD3.out hs (by omega)).mono ?_
       rintro e W4 ⟨rfl,hr4,hm4⟩
       have hm4:=HM3.out.trans hm4
       have HRD4:=Lib.hid hr4
       have HM4:=Lib.hid hm4
       clear hr4 hm4 HRD3 HM3
       go_wp2_with fail
       rw[Lib.run_convert_string_bytes (P:=Tryz.prog) W4 9 129 5 (s.extract (p+1) (p+1+n)) Tryz.underlying9 Tryz.underlying129 Tryz.underlying5]
       simp only[Result.andThen]
       rw[Oper.upon_value]
       have hxs:(s.extract (p+1) (p+1+n)).size=n:=by rw[ByteArray.size_extract];omega
       obtain⟨W5,hW5⟩:∃ W5,W5=Lib.bytesWorld W4 5 (s.extract (p+1) (p+1+n)):=⟨_,rfl⟩
       obtain⟨gc,hgc⟩:∃ gc,gc=grownCap W4 (s.extract (p+1) (p+1+n)).size 0 5:=⟨_,rfl⟩
       obtain⟨gb,hgb⟩:∃ gb,gb=W4.heap.size:=⟨_,rfl⟩
       rw[← hgc,← hW5,hxs,← hgb]
       have hb5:Below W4.heap.size W4 W5:=by rw[hW5];exact below_bytes _ _ _
       have hcell:∀ j,j < n→W5.cell? ⟨gb,j,none⟩=some (.int .u8 (byteAt s (p+1+j):Int)):=fun j hj=>by
        rw[hW5,hgb,Lib.bytesWorld_cell _ _ _ _ (by omega),ext_at s (p+1) n j (by omega) hj]
       have hr5:=HRD4.out.kept hb5
       have hm5:=HM4.out.trans (ModB.of_below hb5)
       have hsz5:=Nat.le_trans (HM4.out.size) hb5.size
       have HCELL:=Lib.hid hcell
       have HRD5:=Lib.hid hr5
       have HM5:=Lib.hid hm5
       clear hxs hW5 hgc hb5 hcell hr5 hm5 HRD4 HM4 hgb
       go_wp2_with fail
       go_loopw [11,52] (fun k i wr=>∃ j:Nat,j≤n∧i = .int .i64 (j:Int)∧k = .int .u64 (numAt s (p+1) j:Int)∧(0 < j→byteAt s (p+1)≠0)∧W5=wr) (fun _ i _=>n - (intOf i).toNat)
       case atStart=>exact⟨0,Nat.zero_le _,rfl,rfl,fun h=>absurd h (by decide),rfl⟩
       case round=>
        obtain⟨j,hj,rfl,rfl,hnz,rfl⟩:=hrel
        by_cases hjn:j < n
        ·have cj:=HCELL.out j hjn
         have hcl:=byteAt_lt s (p+1+j)
         have hnl:=numAt_lt s (p+1) j
         have hor:=or_byte s (p+1) j (by omega)
         obtain⟨bj,hbj⟩:∃ bj,bj=byteAt s (p+1+j):=⟨_,rfl⟩
         obtain⟨nj,hnj⟩:∃ nj,nj=numAt s (p+1) j:=⟨_,rfl⟩
         rw[← hbj]at cj hcl hor
         rw[← hnj]at hnl hor ⊢
         have hnl64:nj * 256+255 < 18446744073709551616:=by
          have:256 ^ j≤256 ^ 7:=Nat.pow_le_pow_right (by decide) (by omega)
          have h7:(256:Nat) ^ 7=72057594037927936:=by decide
          omega
         have HBJ:=Lib.hid hbj
         have HNJ:=Lib.hid hnj
         have HOR:=Lib.hid hor
         clear hbj hnj hor
         by_cases hj0:0 < j
         ·go_wp2_with fail
          refine(need_ok _ _ _).mono ?_
          rintro e W' ⟨rfl,rfl⟩
          go_wp2_with fail
          go_roundw
          case rel=>exact⟨j+1,by omega,by go_num,by rw[HOR.out],by have:=HBJ.out;have:=hnz;intro _;exact hnz hj0,trivial⟩
          case measure=>simp[intOf];omega
         ·have hj00:j=0:=by omega
          have hbz:bj=byteAt s (p+1):=by rw[HBJ.out,hj00,Nat.add_zero]
          have HBZ:=Lib.hid hbz
          clear hj00 hbz
          by_cases hb0:0 < bj
          ·go_wp2_with fail
           refine(need_ok _ _ _).mono ?_
           rintro e W' ⟨rfl,rfl⟩
           go_wp2_with fail
           go_roundw
           case rel=>exact⟨j+1,by omega,by go_num,by rw[HOR.out],by have:=HBJ.out;have:=hnz;intro _;have:=HBZ.out;omega,trivial⟩
           case measure=>simp[intOf];omega
          ·have e0:r = .bad p 4:=by rw[HR.out];exact if_pos ⟨by omega,by have:=HBZ.out;omega⟩
           go_wp2_with fail
           refine(need_no _ _ _).mono ?_
           rintro e W' ⟨rfl,rfl⟩
           subst e0
           exact⟨rfl,HX.out _ HM5.out,rfl⟩
        ·have hjn':j=n:=by omega
         have hr:=HR.out
         rw[if_neg (by rintro⟨h1,h2⟩;exact hnz (by omega) h2)]at hr
         have HR:=Lib.hid hr
         have HJN:=Lib.hid hjn'
         clear hr hjn'
         obtain⟨kk,hkk⟩:∃ kk,kk=numAt s (p+1) j:=⟨_,rfl⟩
         rw[← hkk]
         have HKK:=Lib.hid hkk
         clear hkk
         go_wp2_with fail
         have hr:=HR.out
         rw[show numAt s (p+1) n=kk by rw[HKK.out,HJN.out]]at hr
         have HR:=Lib.hid hr
         clear hr
         by_cases hmx:9223372036854775807 < kk
         ·have e0:r = .bad p 4:=by rw[HR.out];exact if_pos hmx
          rw[decide_eq_false (by omega:¬ (kk:Int)≤9223372036854775807)]
          refine(need_no _ _ _).mono ?_
          rintro e W' ⟨rfl,rfl⟩
          subst e0
          exact⟨rfl,HX.out _ HM5.out,rfl⟩
         ·have hr:=HR.out
          rw[if_neg hmx]at hr
          have HR:=Lib.hid hr
          clear hr
          rw[decide_eq_true (by omega:(kk:Int)≤9223372036854775807)]
          refine(need_ok _ _ _).mono ?_
          rintro e W' ⟨rfl,rfl⟩
          have hnot:bits BinOp.xor IntKind.i64 (-1) (kk:Int) = -1 - (kk:Int):=i64_not kk (by omega)
          have q1:=as_num
          have q2:=as_word1
          have q3:=as_word2
          have q4:=as_row1
          have q5:=as_row2
          go_wp2_with fail
          have hx6:Below W'.heap.size W' (W'.alloc (.cells #[.bool false] 285)):=(Below.refl _ _).alloc (Nat.le_refl _) _
          obtain⟨W6,hW6⟩:∃ W6,W6=W'.alloc (.cells #[.bool false] 285):=⟨_,rfl⟩
          rw[← hW6]at hx6 ⊢
          clear hW6 q1 q2 q3 q4 q5
          refine(cell_Num.calls (kk:Int) 1 (kk:Int) ⟨#[]⟩ [] W6 rfl).mono ?_
          rintro e W7 ⟨v3,rfl,hR7,hb7⟩
          have hbb:=hx6.trans (hb7.mono hx6.size)
          have hm7:=HM5.out.trans (ModB.of_below hbb)
          have hr7:=HRD5.out.kept hbb
          obtain⟨A3,c3,rfl⟩:=R_slice hR7
          have hg7:=(hm7.block _ (Array.getElem?_eq_some_iff.1 HG1.out).1 (by have:=HBL.out;omega)).trans HG1.out
          have z0:W7.cell? ⟨w.heap.size,0,none⟩=some (.int .i64 0):=by rw[Lib.cell_of_heap hg7];rfl
          have z1:W7.cell? ⟨w.heap.size,1,none⟩=some (.int .i64 0):=by rw[Lib.cell_of_heap hg7];rfl
          have z2:W7.cell? ⟨w.heap.size,2,none⟩=some (.string (⟨#[]⟩:ByteArray)):=by rw[Lib.cell_of_heap hg7];rfl
          have z3:W7.cell? ⟨w.heap.size,3,none⟩=some (.slice none 0 0):=by rw[Lib.cell_of_heap hg7];rfl
          have f0:=Lib.frozen_of_heap hg7 0
          have f1:=Lib.frozen_of_heap hg7 1
          have f2:=Lib.frozen_of_heap hg7 2
          have f3:=Lib.frozen_of_heap hg7 3
          have HG7:=Lib.hid hg7
          have HM7:=Lib.hid hm7
          have HR7:=Lib.hid hr7
          have HRR:=Lib.hid hR7
          have hsz6:w.heap.size < W6.heap.size:=by have:=(Array.getElem?_eq_some_iff.1 HG1.out).1;have:=HM5.out.size;have:=hx6.size;omega
          have HSZ6:=Lib.hid hsz6
          clear hg7 hm7 hr7 hR7 hbb hx6 hb7 hsz6
          go_wp2_with fail
          obtain⟨e1,e2,e3⟩:=fin_cell HBL.out (HX.out _ HM7.out) HR7.out HSZ6.out (Kd.R_mono (Kd.R_bound HRR.out) (fun k hk=>by have:=HBL.out;have:=HSZ6.out;omega)) (.int .i64 1) (.int .i64 (kk:Int)) (.string (⟨#[]⟩:ByteArray)) (.slice A3 0 c3)
          have e0:r = .ok ⟨1,(kk:Int),⟨#[]⟩,[]⟩ (p+1+n):=by rw[HR.out];exact if_pos HK.out
          refine bodyPost_ret (results_cell_row rfl _ _ w.heap.size 32 #[.int .i64 1,.int .i64 (kk:Int),.string (⟨#[]⟩:ByteArray),.slice A3 0 c3] (0,0) _ rfl (four_put HG7.out _ _ _ _) Tryz.underlying32 rfl (by kernel_rfl)) rfl ?_
          rw[e0]
          exact⟨e1,⟨_,rfl,e3⟩,e2,by omega,by omega⟩
     ·have e0:r = .bad p 5:=by rw[HR.out];exact if_pos (by rw[decide_eq_false hd0])
      rw[decide_eq_false hd0]
      refine(need_no _ _ _).mono ?_
      rintro e W' ⟨rfl,rfl⟩
      rw[e0]
      exact⟨rfl,HX.out _ HM3.out,rfl⟩
   ·have hv:firstV c = .iface 285 (.agg #[.bool true]):=by unfold firstV;rw[if_neg (by omega),if_pos hk]
    have hmost:=most_number true
    have hw8:widthOf (c / 16)=8:=by rw[hk];rfl
    have hm8:mostOf (c / 16)=9223372036854775807:=by rw[hk];rfl
    rw[hv]
    have HMO:=Lib.hid hmost
    clear hmost hv
    go_wp2_with fail
    refine(need_ok _ _ _).mono ?_
    rintro e W' ⟨rfl,rfl⟩
    go_wp2_with fail
    refine(HMO.out _).mono ?_
    rintro e W3 ⟨rfl,hb3⟩
    have hr3:=HRD2.out.kept hb3
    have hm3:=HM2.out.trans (ModB.of_below hb3)
    have HRD3:=Lib.hid hr3
    have HM3:=Lib.hid hm3
    have hsz3:=hb3.size
    clear hb3 hr3 hm3 HRD2 HM2 m1 m2 m3
    go_wp2_with fail
    obtain⟨n,hn⟩:∃ n,n=c % 16:=⟨_,rfl⟩
    rw[show(c:Int) % 16=(n:Int)by omega]
    have hr:=HR3.out
    rw[← hn,hw8,hm8]at hr
    have HR:=Lib.hid hr
    have hn16:n≤15:=by omega
    have HN:=Lib.hid hn
    have HW8:=Lib.hid hw8
    have HK:=Lib.hid hk
    clear hr HR3 hn hw8 hm8 hk
    by_cases hwd:8 < n
    ·rw[decide_eq_false (by omega:¬ (n:Int)≤8)]
     refine(need_no _ _ _).mono ?_
     rintro e W' ⟨rfl,rfl⟩
     have e0:r = .bad p 4:=by rw[HR.out];exact if_pos hwd
     rw[e0]
     exact⟨rfl,HX.out _ HM3.out,rfl⟩
    ·rw[decide_eq_true (by omega:(n:Int)≤8)]
     have hr:=HR.out
     rw[if_neg hwd]at hr
     have HR:=Lib.hid hr
     clear hr
     refine(need_ok _ _ _).mono ?_
     rintro e W' ⟨rfl,rfl⟩
     go_wp2_with fail
     by_cases hd0:0 < d
     ·have hr:=HR.out
      rw[if_neg (by rw[decide_eq_true hd0];decide)]at hr
      have HR:=Lib.hid hr
      clear hr
      rw[decide_eq_true hd0]
      refine(need_ok _ _ _).mono ?_
      rintro e W' ⟨rfl,rfl⟩
      go_wp2_with fail
      by_cases hsh2:s.size < p+1+n
      ·refine(bytes_no b s (p+1) n W' HRD3.out hs (by omega) hsh2 (by omega)).mono ?_
       rintro e W4 ⟨rfl,_,hm⟩
       have e0:r = .bad s.size 3:=by rw[HR.out];exact if_pos hsh2
       rw[e0]
       exact⟨rfl,HX.out _ (HM3.out.trans hm),rfl⟩
      ·have hr:=HR.out
       rw[if_neg hsh2]at hr
       have HR:=Lib.hid hr
       clear hr
       refine(bytes_ok b s (p+1) n W' HRD3.out hs (by omega)).mono ?_
       rintro e W4 ⟨rfl,hr4,hm4⟩
       have hm4:=HM3.out.trans hm4
       have HRD4:=Lib.hid hr4
       have HM4:=Lib.hid hm4
       clear hr4 hm4 HRD3 HM3
       go_wp2_with fail
       rw[Lib.run_convert_string_bytes (P:=Tryz.prog) W4 9 129 5 (s.extract (p+1) (p+1+n)) Tryz.underlying9 Tryz.underlying129 Tryz.underlying5]
       simp only[Result.andThen]
       rw[Oper.upon_value]
       have hxs:(s.extract (p+1) (p+1+n)).size=n:=by rw[ByteArray.size_extract];omega
       obtain⟨W5,hW5⟩:∃ W5,W5=Lib.bytesWorld W4 5 (s.extract (p+1) (p+1+n)):=⟨_,rfl⟩
       obtain⟨gc,hgc⟩:∃ gc,gc=grownCap W4 (s.extract (p+1) (p+1+n)).size 0 5:=⟨_,rfl⟩
       obtain⟨gb,hgb⟩:∃ gb,gb=W4.heap.size:=⟨_,rfl⟩
       rw[← hgc,← hW5,hxs,← hgb]
       have hb5:Below W4.heap.size W4 W5:=by rw[hW5];exact below_bytes _ _ _
       have hcell:∀ j,j < n→W5.cell? ⟨gb,j,none⟩=some (.int .u8 (byteAt s (p+1+j):Int)):=fun j hj=>by
        rw[hW5,hgb,Lib.bytesWorld_cell _ _ _ _ (by omega),ext_at s (p+1) n j (by omega) hj]
       have hr5:=HRD4.out.kept hb5
       have hm5:=HM4.out.trans (ModB.of_below hb5)
       have hsz5:=Nat.le_trans (HM4.out.size) hb5.size
       have HCELL:=Lib.hid hcell
       have HRD5:=Lib.hid hr5
       have HM5:=Lib.hid hm5
       clear hxs hW5 hgc hb5 hcell hr5 hm5 HRD4 HM4 hgb
       go_wp2_with fail
       go_loopw [11,52] (fun k i wr=>∃ j:Nat,j≤n∧i = .int .i64 (j:Int)∧k = .int .u64 (numAt s (p+1) j:Int)∧(0 < j→byteAt s (p+1)≠0)∧W5=wr) (fun _ i _=>n - (intOf i).toNat)
       case atStart=>exact⟨0,Nat.zero_le _,rfl,rfl,fun h=>absurd h (by decide),rfl⟩
       case round=>
        obtain⟨j,hj,rfl,rfl,hnz,rfl⟩:=hrel
        by_cases hjn:j < n
        ·have cj:=HCELL.out j hjn
         have hcl:=byteAt_lt s (p+1+j)
         have hnl:=numAt_lt s (p+1) j
         have hor:=or_byte s (p+1) j (by omega)
         obtain⟨bj,hbj⟩:∃ bj,bj=byteAt s (p+1+j):=⟨_,rfl⟩
         obtain⟨nj,hnj⟩:∃ nj,nj=numAt s (p+1) j:=⟨_,rfl⟩
         rw[← hbj]at cj hcl hor
         rw[← hnj]at hnl hor ⊢
         have hnl64:nj * 256+255 < 18446744073709551616:=by
          have:256 ^ j≤256 ^ 7:=Nat.pow_le_pow_right (by decide) (by omega)
          have h7:(256:Nat) ^ 7=72057594037927936:=by decide
          omega
         have HBJ:=Lib.hid hbj
         have HNJ:=Lib.hid hnj
         have HOR:=Lib.hid hor
         clear hbj hnj hor
         by_cases hj0:0 < j
         ·go_wp2_with fail
          refine(need_ok _ _ _).mono ?_
          rintro e W' ⟨rfl,rfl⟩
          go_wp2_with fail
          go_roundw
          case rel=>exact⟨j+1,by omega,by go_num,by rw[HOR.out],by have:=HBJ.out;have:=hnz;intro _;exact hnz hj0,trivial⟩
          case measure=>simp[intOf];omega
         ·have hj00:j=0:=by omega
          have hbz:bj=byteAt s (p+1):=by rw[HBJ.out,hj00,Nat.add_zero]
          have HBZ:=Lib.hid hbz
          clear hj00 hbz
          by_cases hb0:0 < bj
          ·go_wp2_with fail
           refine(need_ok _ _ _).mono ?_
           rintro e W' ⟨rfl,rfl⟩
           go_wp2_with fail
           go_roundw
           case rel=>exact⟨j+1,by omega,by go_num,by rw[HOR.out],by have:=HBJ.out;have:=hnz;intro _;have:=HBZ.out;omega,trivial⟩
           case measure=>simp[intOf];omega
          ·have e0:r = .bad p 4:=by rw[HR.out];exact if_pos ⟨by omega,by have:=HBZ.out;omega⟩
           go_wp2_with fail
           refine(need_no _ _ _).mono ?_
           rintro e W' ⟨rfl,rfl⟩
           subst e0
           exact⟨rfl,HX.out _ HM5.out,rfl⟩
        ·have hjn':j=n:=by omega
         have hr:=HR.out
         rw[if_neg (by rintro⟨h1,h2⟩;exact hnz (by omega) h2)]at hr
         have HR:=Lib.hid hr
         have HJN:=Lib.hid hjn'
         clear hr hjn'
         obtain⟨kk,hkk⟩:∃ kk,kk=numAt s (p+1) j:=⟨_,rfl⟩
         rw[← hkk]
         have HKK:=Lib.hid hkk
         clear hkk
         go_wp2_with fail
         have hr:=HR.out
         rw[show numAt s (p+1) n=kk by rw[HKK.out,HJN.out]]at hr
         have HR:=Lib.hid hr
         clear hr
         by_cases hmx:9223372036854775807 < kk
         ·have e0:r = .bad p 4:=by rw[HR.out];exact if_pos hmx
          rw[decide_eq_false (by omega:¬ (kk:Int)≤9223372036854775807)]
          refine(need_no _ _ _).mono ?_
          rintro e W' ⟨rfl,rfl⟩
          subst e0
          exact⟨rfl,HX.out _ HM5.out,rfl⟩
         ·have hr:=HR.out
          rw[if_neg hmx]at hr
          have HR:=Lib.hid hr
          clear hr
          rw[decide_eq_true (by omega:(kk:Int)≤9223372036854775807)]
          refine(need_ok _ _ _).mono ?_
          rintro e W' ⟨rfl,rfl⟩
          have hnot:bits BinOp.xor IntKind.i64 (-1) (kk:Int) = -1 - (kk:Int):=i64_not kk (by omega)
          have q1:=as_num
          have q2:=as_word1
          have q3:=as_word2
          have q4:=as_row1
          have q5:=as_row2
          go_wp2_with fail
          have hx6:Below W'.heap.size W' (W'.alloc (.cells #[.bool true] 285)):=(Below.refl _ _).alloc (Nat.le_refl _) _
          obtain⟨W6,hW6⟩:∃ W6,W6=W'.alloc (.cells #[.bool true] 285):=⟨_,rfl⟩
          rw[← hW6]at hx6 ⊢
          clear hW6 q1 q2 q3 q4 q5
          refine(cell_Num.calls (-1 - (kk:Int)) 1 (-1 - (kk:Int)) ⟨#[]⟩ [] W6 rfl).mono ?_
          rintro e W7 ⟨v3,rfl,hR7,hb7⟩
          have hbb:=hx6.trans (hb7.mono hx6.size)
          have hm7:=HM5.out.trans (ModB.of_below hbb)
          have hr7:=HRD5.out.kept hbb
          obtain⟨A3,c3,rfl⟩:=R_slice hR7
          have hg7:=(hm7.block _ (Array.getElem?_eq_some_iff.1 HG1.out).1 (by have:=HBL.out;omega)).trans HG1.out
          have z0:W7.cell? ⟨w.heap.size,0,none⟩=some (.int .i64 0):=by rw[Lib.cell_of_heap hg7];rfl
          have z1:W7.cell? ⟨w.heap.size,1,none⟩=some (.int .i64 0):=by rw[Lib.cell_of_heap hg7];rfl
          have z2:W7.cell? ⟨w.heap.size,2,none⟩=some (.string (⟨#[]⟩:ByteArray)):=by rw[Lib.cell_of_heap hg7];rfl
          have z3:W7.cell? ⟨w.heap.size,3,none⟩=some (.slice none 0 0):=by rw[Lib.cell_of_heap hg7];rfl
          have f0:=Lib.frozen_of_heap hg7 0
          have f1:=Lib.frozen_of_heap hg7 1
          have f2:=Lib.frozen_of_heap hg7 2
          have f3:=Lib.frozen_of_heap hg7 3
          have HG7:=Lib.hid hg7
          have HM7:=Lib.hid hm7
          have HR7:=Lib.hid hr7
          have HRR:=Lib.hid hR7
          have hsz6:w.heap.size < W6.heap.size:=by have:=(Array.getElem?_eq_some_iff.1 HG1.out).1;have:=HM5.out.size;have:=hx6.size;omega
          have HSZ6:=Lib.hid hsz6
          clear hg7 hm7 hr7 hR7 hbb hx6 hb7 hsz6
          go_wp2_with fail
          obtain⟨e1,e2,e3⟩:=fin_cell HBL.out (HX.out _ HM7.out) HR7.out HSZ6.out (Kd.R_mono (Kd.R_bound HRR.out) (fun k hk=>by have:=HBL.out;have:=HSZ6.out;omega)) (.int .i64 1) (.int .i64 (-1 - (kk:Int))) (.string (⟨#[]⟩:ByteArray)) (.slice A3 0 c3)
          have e0:r = .ok ⟨1,-1 - (kk:Int),⟨#[]⟩,[]⟩ (p+1+n):=by rw[HR.out];rw[if_neg (by have:=HK.out;omega)];exact if_pos HK.out
          refine bodyPost_ret (results_cell_row rfl _ _ w.heap.size 32 #[.int .i64 1,.int .i64 (-1 - (kk:Int)),.string (⟨#[]⟩:ByteArray),.slice A3 0 c3] (0,0) _ rfl (four_put HG7.out _ _ _ _) Tryz.underlying32 rfl (by kernel_rfl)) rfl ?_
          rw[e0]
          exact⟨e1,⟨_,rfl,e3⟩,e2,by omega,by omega⟩
     ·have e0:r = .bad p 5:=by rw[HR.out];exact if_pos (by rw[decide_eq_false hd0])
      rw[decide_eq_false hd0]
      refine(need_no _ _ _).mono ?_
      rintro e W' ⟨rfl,rfl⟩
      rw[e0]
      exact⟨rfl,HX.out _ HM3.out,rfl⟩
   ·have hv:firstV c = .iface 287 (.agg #[]):=by unfold firstV;rw[if_neg (by omega),if_neg (by omega),if_pos hk]
    have hmost:=most_word
    have hw8:widthOf (c / 16)=2:=by rw[hk];rfl
    have hm8:mostOf (c / 16)=65535:=by rw[hk];rfl
    rw[hv]
    have HMO:=Lib.hid hmost
    clear hmost hv
    go_wp2_with fail
    refine(need_ok _ _ _).mono ?_
    rintro e W' ⟨rfl,rfl⟩
    go_wp2_with fail
    refine(HMO.out _).mono ?_
    rintro e W3 ⟨rfl,hb3⟩
    have hr3:=HRD2.out.kept hb3
    have hm3:=HM2.out.trans (ModB.of_below hb3)
    have HRD3:=Lib.hid hr3
    have HM3:=Lib.hid hm3
    have hsz3:=hb3.size
    clear hb3 hr3 hm3 HRD2 HM2 m1 m2 m3
    go_wp2_with fail
    obtain⟨n,hn⟩:∃ n,n=c % 16:=⟨_,rfl⟩
    rw[show(c:Int) % 16=(n:Int)by omega]
    have hr:=HR3.out
    rw[← hn,hw8,hm8]at hr
    have HR:=Lib.hid hr
    have hn16:n≤15:=by omega
    have HN:=Lib.hid hn
    have HW8:=Lib.hid hw8
    have HK:=Lib.hid hk
    clear hr HR3 hn hw8 hm8 hk
    by_cases hwd:2 < n
    ·rw[decide_eq_false (by omega:¬ (n:Int)≤2)]
     refine(need_no _ _ _).mono ?_
     rintro e W' ⟨rfl,rfl⟩
     have e0:r = .bad p 4:=by rw[HR.out];exact if_pos hwd
     rw[e0]
     exact⟨rfl,HX.out _ HM3.out,rfl⟩
    ·rw[decide_eq_true (by omega:(n:Int)≤2)]
     have hr:=HR.out
     rw[if_neg hwd]at hr
     have HR:=Lib.hid hr
     clear hr
     refine(need_ok _ _ _).mono ?_
     rintro e W' ⟨rfl,rfl⟩
     go_wp2_with fail
     by_cases hd0:0 < d
     ·have hr:=HR.out
      rw[if_neg (by rw[decide_eq_true hd0];decide)]at hr
      have HR:=Lib.hid hr
      clear hr
      rw[decide_eq_true hd0]
      refine(need_ok _ _ _).mono ?_
      rintro e W' ⟨rfl,rfl⟩
      go_wp2_with fail
      by_cases hsh2:s.size < p+1+n
      ·refine(bytes_no b s (p+1) n W' HRD3.out hs (by omega) hsh2 (by omega)).mono ?_
       rintro e W4 ⟨rfl,_,hm⟩
       have e0:r = .bad s.size 3:=by rw[HR.out];exact if_pos hsh2
       rw[e0]
       exact⟨rfl,HX.out _ (HM3.out.trans hm),rfl⟩
      ·have hr:=HR.out
       rw[if_neg hsh2]at hr
       have HR:=Lib.hid hr
       clear hr
       refine(bytes_ok b s (p+1) n W' HRD3.out hs (by omega)).mono ?_
       rintro e W4 ⟨rfl,hr4,hm4⟩
       have hm4:=HM3.out.trans hm4
       have HRD4:=Lib.hid hr4
       have HM4:=Lib.hid hm4
       clear hr4 hm4 HRD3 HM3
       go_wp2_with fail
       rw[Lib.run_convert_string_bytes (P:=Tryz.prog) W4 9 129 5 (s.extract (p+1) (p+1+n)) Tryz.underlying9 Tryz.underlying129 Tryz.underlying5]
       simp only[Result.andThen]
       rw[Oper.upon_value]
       have hxs:(s.extract (p+1) (p+1+n)).size=n:=by rw[ByteArray.size_extract];omega
       obtain⟨W5,hW5⟩:∃ W5,W5=Lib.bytesWorld W4 5 (s.extract (p+1) (p+1+n)):=⟨_,rfl⟩
       obtain⟨gc,hgc⟩:∃ gc,gc=grownCap W4 (s.extract (p+1) (p+1+n)).size 0 5:=⟨_,rfl⟩
       obtain⟨gb,hgb⟩:∃ gb,gb=W4.heap.size:=⟨_,rfl⟩
       rw[← hgc,← hW5,hxs,← hgb]
       have hb5:Below W4.heap.size W4 W5:=by rw[hW5];exact below_bytes _ _ _
       have hcell:∀ j,j < n→W5.cell? ⟨gb,j,none⟩=some (.int .u8 (byteAt s (p+1+j):Int)):=fun j hj=>by
        rw[hW5,hgb,Lib.bytesWorld_cell _ _ _ _ (by omega),ext_at s (p+1) n j (by omega) hj]
       have hr5:=HRD4.out.kept hb5
       have hm5:=HM4.out.trans (ModB.of_below hb5)
       have hsz5:=Nat.le_trans (HM4.out.size) hb5.size
       have HCELL:=Lib.hid hcell
       have HRD5:=Lib.hid hr5
       have HM5:=Lib.hid hm5
       clear hxs hW5 hgc hb5 hcell hr5 hm5 HRD4 HM4 hgb
       go_wp2_with fail
       go_loopw [11,52] (fun k i wr=>∃ j:Nat,j≤n∧i = .int .i64 (j:Int)∧k = .int .u64 (numAt s (p+1) j:Int)∧(0 < j→byteAt s (p+1)≠0)∧W5=wr) (fun _ i _=>n - (intOf i).toNat)
       case atStart=>exact⟨0,Nat.zero_le _,rfl,rfl,fun h=>absurd h (by decide),rfl⟩
       case round=>
        obtain⟨j,hj,rfl,rfl,hnz,rfl⟩:=hrel
        by_cases hjn:j < n
        ·have cj:=HCELL.out j hjn
         have hcl:=byteAt_lt s (p+1+j)
         have hnl:=numAt_lt s (p+1) j
         have hor:=or_byte s (p+1) j (by omega)
         obtain⟨bj,hbj⟩:∃ bj,bj=byteAt s (p+1+j):=⟨_,rfl⟩
         obtain⟨nj,hnj⟩:∃ nj,nj=numAt s (p+1) j:=⟨_,rfl⟩
         rw[← hbj]at cj hcl hor
         rw[← hnj]at hnl hor ⊢
         have hnl64:nj * 256+255 < 18446744073709551616:=by
          have:256 ^ j≤256 ^ 7:=Nat.pow_le_pow_right (by decide) (by omega)
          have h7:(256:Nat) ^ 7=72057594037927936:=by decide
          omega
         have HBJ:=Lib.hid hbj
         have HNJ:=Lib.hid hnj
         have HOR:=Lib.hid hor
         clear hbj hnj hor
         by_cases hj0:0 < j
         ·go_wp2_with fail
          refine(need_ok _ _ _).mono ?_
          rintro e W' ⟨rfl,rfl⟩
          go_wp2_with fail
          go_roundw
          case rel=>exact⟨j+1,by omega,by go_num,by rw[HOR.out],by have:=HBJ.out;have:=hnz;intro _;exact hnz hj0,trivial⟩
          case measure=>simp[intOf];omega
         ·have hj00:j=0:=by omega
          have hbz:bj=byteAt s (p+1):=by rw[HBJ.out,hj00,Nat.add_zero]
          have HBZ:=Lib.hid hbz
          clear hj00 hbz
          by_cases hb0:0 < bj
          ·go_wp2_with fail
           refine(need_ok _ _ _).mono ?_
           rintro e W' ⟨rfl,rfl⟩
           go_wp2_with fail
           go_roundw
           case rel=>exact⟨j+1,by omega,by go_num,by rw[HOR.out],by have:=HBJ.out;have:=hnz;intro _;have:=HBZ.out;omega,trivial⟩
           case measure=>simp[intOf];omega
          ·have e0:r = .bad p 4:=by rw[HR.out];exact if_pos ⟨by omega,by have:=HBZ.out;omega⟩
           go_wp2_with fail
           refine(need_no _ _ _).mono ?_
           rintro e W' ⟨rfl,rfl⟩
           subst e0
           exact⟨rfl,HX.out _ HM5.out,rfl⟩
        ·have hjn':j=n:=by omega
         have hr:=HR.out
         rw[if_neg (by rintro⟨h1,h2⟩;exact hnz (by omega) h2)]at hr
         have HR:=Lib.hid hr
         have HJN:=Lib.hid hjn'
         clear hr hjn'
         obtain⟨kk,hkk⟩:∃ kk,kk=numAt s (p+1) j:=⟨_,rfl⟩
         rw[← hkk]
         have HKK:=Lib.hid hkk
         clear hkk
         go_wp2_with fail
         have hr:=HR.out
         rw[show numAt s (p+1) n=kk by rw[HKK.out,HJN.out]]at hr
         have HR:=Lib.hid hr
         clear hr
         by_cases hmx:65535 < kk
         ·have e0:r = .bad p 4:=by rw[HR.out];exact if_pos hmx
          rw[decide_eq_false (by omega:¬ (kk:Int)≤65535)]
          refine(need_no _ _ _).mono ?_
          rintro e W' ⟨rfl,rfl⟩
          subst e0
          exact⟨rfl,HX.out _ HM5.out,rfl⟩
         ·have hr:=HR.out
          rw[if_neg hmx]at hr
          have HR:=Lib.hid hr
          clear hr
          rw[decide_eq_true (by omega:(kk:Int)≤65535)]
          refine(need_ok _ _ _).mono ?_
          rintro e W' ⟨rfl,rfl⟩
          have hnot:bits BinOp.xor IntKind.i64 (-1) (kk:Int) = -1 - (kk:Int):=i64_not kk (by omega)
          have q1:=as_num
          have q2:=as_word1
          have q3:=as_word2
          have q4:=as_row1
          have q5:=as_row2
          go_wp2_with fail
          have hx6:Below W'.heap.size W' (W'.alloc (.cells #[] 287)):=(Below.refl _ _).alloc (Nat.le_refl _) _
          obtain⟨W6,hW6⟩:∃ W6,W6=W'.alloc (.cells #[] 287):=⟨_,rfl⟩
          rw[← hW6]at hx6 ⊢
          clear hW6 q1 q2 q3 q4 q5
          have hr6:=HRD5.out.kept hx6
          have hm6:=HM5.out.trans (ModB.of_below hx6)
          have hr:=HR.out
          rw[if_neg (by have:=HK.out;omega),if_neg (by have:=HK.out;omega),if_pos HK.out]at hr
          by_cases hsh3:s.size < p+1+n+kk
          ·refine(bytes_no b s (p+1+n) kk W6 hr6 hs (by omega) hsh3 (by omega)).mono ?_
           rintro e W7 ⟨rfl,_,hm7⟩
           have e0:r = .bad s.size 3:=by rw[hr];exact if_pos hsh3
           subst e0
           exact⟨rfl,HX.out _ (hm6.trans hm7),rfl⟩
          ·rw[if_neg hsh3]at hr
           refine(bytes_ok b s (p+1+n) kk W6 hr6 hs (by omega)).mono ?_
           rintro e W8 ⟨rfl,hr8,hm8⟩
           have hm8:=hm6.trans hm8
           have HR8:=Lib.hid hr8
           have HM8:=Lib.hid hm8
           have HRF:=Lib.hid hr
           clear hr8 hm8 hm6 hr6 hr
           go_wp2_with fail
           refine(cell_Text.calls (s.extract (p+1+n) (p+1+n+kk)) 2 0 (s.extract (p+1+n) (p+1+n+kk)) [] W8 rfl).mono ?_
           rintro e W7 ⟨v3,rfl,hR7,hbb⟩
           have hm7:=HM8.out.trans (ModB.of_below hbb)
           have hr7:=HR8.out.kept hbb
           obtain⟨A3,c3,rfl⟩:=R_slice hR7
           have hg7:=(hm7.block _ (Array.getElem?_eq_some_iff.1 HG1.out).1 (by have:=HBL.out;omega)).trans HG1.out
           have z0:W7.cell? ⟨w.heap.size,0,none⟩=some (.int .i64 0):=by rw[Lib.cell_of_heap hg7];rfl
           have z1:W7.cell? ⟨w.heap.size,1,none⟩=some (.int .i64 0):=by rw[Lib.cell_of_heap hg7];rfl
           have z2:W7.cell? ⟨w.heap.size,2,none⟩=some (.string (⟨#[]⟩:ByteArray)):=by rw[Lib.cell_of_heap hg7];rfl
           have z3:W7.cell? ⟨w.heap.size,3,none⟩=some (.slice none 0 0):=by rw[Lib.cell_of_heap hg7];rfl
           have f0:=Lib.frozen_of_heap hg7 0
           have f1:=Lib.frozen_of_heap hg7 1
           have f2:=Lib.frozen_of_heap hg7 2
           have f3:=Lib.frozen_of_heap hg7 3
           have HG7:=Lib.hid hg7
           have HM7:=Lib.hid hm7
           have HR7:=Lib.hid hr7
           have HRR:=Lib.hid hR7
           have hsz6:w.heap.size < W8.heap.size:=by have:=(Array.getElem?_eq_some_iff.1 HG1.out).1;have:=HM8.out.size;omega
           have HSZ6:=Lib.hid hsz6
           clear hg7 hm7 hr7 hR7 hbb hx6 hsz6
           go_wp2_with fail
           obtain⟨e1,e2,e3⟩:=fin_cell HBL.out (HX.out _ HM7.out) HR7.out HSZ6.out (Kd.R_mono (Kd.R_bound HRR.out) (fun k hk=>by have:=HBL.out;have:=HSZ6.out;omega)) (.int .i64 2) (.int .i64 0) (.string (s.extract (p+1+n) (p+1+n+kk))) (.slice A3 0 c3)
           have e0:r = .ok ⟨2,0,s.extract (p+1+n) (p+1+n+kk),[]⟩ (p+1+n+kk):=HRF.out
           refine bodyPost_ret (results_cell_row rfl _ _ w.heap.size 32 #[.int .i64 2,.int .i64 0,.string (s.extract (p+1+n) (p+1+n+kk)),.slice A3 0 c3] (0,0) _ rfl (four_put HG7.out _ _ _ _) Tryz.underlying32 rfl (by kernel_rfl)) rfl ?_
           rw[e0]
           exact⟨e1,⟨_,rfl,e3⟩,e2,by omega,by omega⟩
     ·have e0:r = .bad p 5:=by rw[HR.out];exact if_pos (by rw[decide_eq_false hd0])
      rw[decide_eq_false hd0]
      refine(need_no _ _ _).mono ?_
      rintro e W' ⟨rfl,rfl⟩
      rw[e0]
      exact⟨rfl,HX.out _ HM3.out,rfl⟩
   ·have hv:firstV c = .iface 306 (.agg #[]):=by unfold firstV;rw[if_neg (by omega),if_neg (by omega),if_neg (by omega),if_pos hk]
    have hmost:=most_row
    have hw8:widthOf (c / 16)=2:=by rw[hk];rfl
    have hm8:mostOf (c / 16)=4095:=by rw[hk];rfl
    rw[hv]
    have HMO:=Lib.hid hmost
    clear hmost hv
    go_wp2_with fail
    refine(need_ok _ _ _).mono ?_
    rintro e W' ⟨rfl,rfl⟩
    go_wp2_with fail
    refine(HMO.out _).mono ?_
    rintro e W3 ⟨rfl,hb3⟩
    have hr3:=HRD2.out.kept hb3
    have hm3:=HM2.out.trans (ModB.of_below hb3)
    have HRD3:=Lib.hid hr3
    have HM3:=Lib.hid hm3
    have hsz3:=hb3.size
    clear hb3 hr3 hm3 HRD2 HM2 m1 m2 m3
    go_wp2_with fail
    obtain⟨n,hn⟩:∃ n,n=c % 16:=⟨_,rfl⟩
    rw[show(c:Int) % 16=(n:Int)by omega]
    have hr:=HR3.out
    rw[← hn,hw8,hm8]at hr
    have HR:=Lib.hid hr
    have hn16:n≤15:=by omega
    have HN:=Lib.hid hn
    have HW8:=Lib.hid hw8
    have HK:=Lib.hid hk
    clear hr HR3 hn hw8 hm8 hk
    by_cases hwd:2 < n
    ·rw[decide_eq_false (by omega:¬ (n:Int)≤2)]
     refine(need_no _ _ _).mono ?_
     rintro e W' ⟨rfl,rfl⟩
     have e0:r = .bad p 4:=by rw[HR.out];exact if_pos hwd
     rw[e0]
     exact⟨rfl,HX.out _ HM3.out,rfl⟩
    ·rw[decide_eq_true (by omega:(n:Int)≤2)]
     have hr:=HR.out
     rw[if_neg hwd]at hr
     have HR:=Lib.hid hr
     clear hr
     refine(need_ok _ _ _).mono ?_
     rintro e W' ⟨rfl,rfl⟩
     go_wp2_with fail
     by_cases hd0:0 < d
     ·have hr:=HR.out
      rw[if_neg (by rw[decide_eq_true hd0];decide)]at hr
      have HR:=Lib.hid hr
      clear hr
      rw[decide_eq_true hd0]
      refine(need_ok _ _ _).mono ?_
      rintro e W' ⟨rfl,rfl⟩
      go_wp2_with fail
      by_cases hsh2:s.size < p+1+n
      ·refine(bytes_no b s (p+1) n W' HRD3.out hs (by omega) hsh2 (by omega)).mono ?_
       rintro e W4 ⟨rfl,_,hm⟩
       have e0:r = .bad s.size 3:=by rw[HR.out];exact if_pos hsh2
       rw[e0]
       exact⟨rfl,HX.out _ (HM3.out.trans hm),rfl⟩
      ·have hr:=HR.out
       rw[if_neg hsh2]at hr
       have HR:=Lib.hid hr
       clear hr
       refine(bytes_ok b s (p+1) n W' HRD3.out hs (by omega)).mono ?_
       rintro e W4 ⟨rfl,hr4,hm4⟩
       have hm4:=HM3.out.trans hm4
       have HRD4:=Lib.hid hr4
       have HM4:=Lib.hid hm4
       clear hr4 hm4 HRD3 HM3
       go_wp2_with fail
       rw[Lib.run_convert_string_bytes (P:=Tryz.prog) W4 9 129 5 (s.extract (p+1) (p+1+n)) Tryz.underlying9 Tryz.underlying129 Tryz.underlying5]
       simp only[Result.andThen]
       rw[Oper.upon_value]
       have hxs:(s.extract (p+1) (p+1+n)).size=n:=by rw[ByteArray.size_extract];omega
       obtain⟨W5,hW5⟩:∃ W5,W5=Lib.bytesWorld W4 5 (s.extract (p+1) (p+1+n)):=⟨_,rfl⟩
       obtain⟨gc,hgc⟩:∃ gc,gc=grownCap W4 (s.extract (p+1) (p+1+n)).size 0 5:=⟨_,rfl⟩
       obtain⟨gb,hgb⟩:∃ gb,gb=W4.heap.size:=⟨_,rfl⟩
       rw[← hgc,← hW5,hxs,← hgb]
       have hb5:Below W4.heap.size W4 W5:=by rw[hW5];exact below_bytes _ _ _
       have hcell:∀ j,j < n→W5.cell? ⟨gb,j,none⟩=some (.int .u8 (byteAt s (p+1+j):Int)):=fun j hj=>by
        rw[hW5,hgb,Lib.bytesWorld_cell _ _ _ _ (by omega),ext_at s (p+1) n j (by omega) hj]
       have hr5:=HRD4.out.kept hb5
       have hm5:=HM4.out.trans (ModB.of_below hb5)
       have hsz5:=Nat.le_trans (HM4.out.size) hb5.size
       have HCELL:=Lib.hid hcell
       have HRD5:=Lib.hid hr5
       have HM5:=Lib.hid hm5
       clear hxs hW5 hgc hb5 hcell hr5 hm5 HRD4 HM4 hgb
       go_wp2_with fail
       go_loopw [11,52] (fun k i wr=>∃ j:Nat,j≤n∧i = .int .i64 (j:Int)∧k = .int .u64 (numAt s (p+1) j:Int)∧(0 < j→byteAt s (p+1)≠0)∧W5=wr) (fun _ i _=>n - (intOf i).toNat)
       case atStart=>exact⟨0,Nat.zero_le _,rfl,rfl,fun h=>absurd h (by decide),rfl⟩
       case round=>
        obtain⟨j,hj,rfl,rfl,hnz,rfl⟩:=hrel
        by_cases hjn:j < n
        ·have cj:=HCELL.out j hjn
         have hcl:=byteAt_lt s (p+1+j)
         have hnl:=numAt_lt s (p+1) j
         have hor:=or_byte s (p+1) j (by omega)
         obtain⟨bj,hbj⟩:∃ bj,bj=byteAt s (p+1+j):=⟨_,rfl⟩
         obtain⟨nj,hnj⟩:∃ nj,nj=numAt s (p+1) j:=⟨_,rfl⟩
         rw[← hbj]at cj hcl hor
         rw[← hnj]at hnl hor ⊢
         have hnl64:nj * 256+255 < 18446744073709551616:=by
          have:256 ^ j≤256 ^ 7:=Nat.pow_le_pow_right (by decide) (by omega)
          have h7:(256:Nat) ^ 7=72057594037927936:=by decide
          omega
         have HBJ:=Lib.hid hbj
         have HNJ:=Lib.hid hnj
         have HOR:=Lib.hid hor
         clear hbj hnj hor
         by_cases hj0:0 < j
         ·go_wp2_with fail
          refine(need_ok _ _ _).mono ?_
          rintro e W' ⟨rfl,rfl⟩
          go_wp2_with fail
          go_roundw
          case rel=>exact⟨j+1,by omega,by go_num,by rw[HOR.out],by have:=HBJ.out;have:=hnz;intro _;exact hnz hj0,trivial⟩
          case measure=>simp[intOf];omega
         ·have hj00:j=0:=by omega
          have hbz:bj=byteAt s (p+1):=by rw[HBJ.out,hj00,Nat.add_zero]
          have HBZ:=Lib.hid hbz
          clear hj00 hbz
          by_cases hb0:0 < bj
          ·go_wp2_with fail
           refine(need_ok _ _ _).mono ?_
           rintro e W' ⟨rfl,rfl⟩
           go_wp2_with fail
           go_roundw
           case rel=>exact⟨j+1,by omega,by go_num,by rw[HOR.out],by have:=HBJ.out;have:=hnz;intro _;have:=HBZ.out;omega,trivial⟩
           case measure=>simp[intOf];omega
          ·have e0:r = .bad p 4:=by rw[HR.out];exact if_pos ⟨by omega,by have:=HBZ.out;omega⟩
           go_wp2_with fail
           refine(need_no _ _ _).mono ?_
           rintro e W' ⟨rfl,rfl⟩
           subst e0
           exact⟨rfl,HX.out _ HM5.out,rfl⟩
        ·have hjn':j=n:=by omega
         have hr:=HR.out
         rw[if_neg (by rintro⟨h1,h2⟩;exact hnz (by omega) h2)]at hr
         have HR:=Lib.hid hr
         have HJN:=Lib.hid hjn'
         clear hr hjn'
         obtain⟨kk,hkk⟩:∃ kk,kk=numAt s (p+1) j:=⟨_,rfl⟩
         rw[← hkk]
         have HKK:=Lib.hid hkk
         clear hkk
         go_wp2_with fail
         have hr:=HR.out
         rw[show numAt s (p+1) n=kk by rw[HKK.out,HJN.out]]at hr
         have HR:=Lib.hid hr
         clear hr
         by_cases hmx:4095 < kk
         ·have e0:r = .bad p 4:=by rw[HR.out];exact if_pos hmx
          rw[decide_eq_false (by omega:¬ (kk:Int)≤4095)]
          refine(need_no _ _ _).mono ?_
          rintro e W' ⟨rfl,rfl⟩
          subst e0
          exact⟨rfl,HX.out _ HM5.out,rfl⟩
         ·have hr:=HR.out
          rw[if_neg hmx]at hr
          have HR:=Lib.hid hr
          clear hr
          rw[decide_eq_true (by omega:(kk:Int)≤4095)]
          refine(need_ok _ _ _).mono ?_
          rintro e W' ⟨rfl,rfl⟩
          have hnot:bits BinOp.xor IntKind.i64 (-1) (kk:Int) = -1 - (kk:Int):=i64_not kk (by omega)
          have q1:=as_num
          have q2:=as_word1
          have q3:=as_word2
          have q4:=as_row1
          have q5:=as_row2
          go_wp2_with fail
          clear q1 q2 q3 q4 q5 hnot
          have hx6:Below W'.heap.size W' (W'.alloc (.cells #[.int .i64 3,.int .i64 0,.string (⟨#[]⟩:ByteArray),.slice none 0 0] 32)):=(Below.refl _ _).alloc (Nat.le_refl _) _
          have hblk:=heap_alloc_last W' (.cells #[.int .i64 3,.int .i64 0,.string (⟨#[]⟩:ByteArray),.slice none 0 0] 32)
          obtain⟨W6,hW6⟩:∃ W6,W6=W'.alloc (.cells #[.int .i64 3,.int .i64 0,.string (⟨#[]⟩:ByteArray),.slice none 0 0] 32):=⟨_,rfl⟩
          rw[← hW6]at hx6 hblk ⊢
          obtain⟨gO,hgO⟩:∃ gO,gO=W'.heap.size:=⟨_,rfl⟩
          rw[← hgO]at hblk ⊢
          have hout:OutAt W1 b gO s (.slice none 0 0) [] (p+1+n) W6:=⟨HM5.out.trans (ModB.of_below hx6),by rw[hgO];exact HM5.out.size,by have:=(Array.getElem?_eq_some_iff.1 HG1.out).1;have:=HBL.out;omega,hblk,Kd.R_nil _ _ _ _ _,HRD5.out.kept hx6⟩
          have hr:=HR.out
          rw[if_neg (by have:=HK.out;omega),if_neg (by have:=HK.out;omega),if_neg (by have:=HK.out;omega)]at hr
          have hgw:w.heap.size < gO:=by have:=(Array.getElem?_eq_some_iff.1 HG1.out).1;have:=HM5.out.size;omega
          have HRF:=Lib.hid hr
          have HO:=Lib.hid hout
          have HGW:=Lib.hid hgw
          clear hr hout hW6 hx6 hblk hgO hgw HM5 HRD5 HCELL
          go_loopw [100] (fun i wr=>∃ (m:Nat) (v:Value) (acc:List S32) (q:Nat),m≤kk∧i = .int .i64 (m:Int)∧acc.length=m∧OutAt W1 b gO s v acc q wr∧p+1+n≤q∧q≤s.size∧manyW g (kk - m) q acc=manyW g kk (p+1+n) []) (fun i _=>kk - (intOf i).toNat)
          case atStart=>exact⟨0,_,[],p+1+n,Nat.zero_le _,rfl,rfl,HO.out,Nat.le_refl _,by omega,rfl⟩
          case round=>
           obtain⟨m,v,acc,q,hm,rfl,hal,hout,hq1,hq2,hman⟩:=hrel
           by_cases hmk:m < kk
           ·rw[show kk - m=(kk - (m+1))+1 by omega,manyW]at hman
            obtain⟨A,cp,rfl⟩:=R_slice hout.row
            have hcall:=HIH.out hd0 q
            have c3:wr.cell? ⟨gO,3,none⟩=some (.slice A acc.length cp):=by rw[Lib.cell_of_heap hout.blk];rfl
            cases hgq:g q with
            | bad p' e'=>
             rw[hgq]at hcall hman
             have e0:r = .bad p' e':=by rw[HRF.out,← hman]
             have HCALL:=Lib.hid (hcall wr.drew hout.rd hq2)
             have HMW:=Lib.hid hout.mod
             clear hcall hman hgq hal hout HRF HR
             subst e0
             go_wp2_with fail
             refine' wp_region_factsP (S:=(fun _ W=>W=wr.drew)) (fun _=>ModB b) [eqM (.pointer (some ⟨gO,3,none⟩)),eqM (.slice A acc.length cp),eqM (.pointer (some ⟨b,0,none⟩)),eqM (.int .i64 (d:Int)),eqM (.int .i64 ((d:Int) - 1)),badM,badM,eqM undef] (by kernel_rfl) (by kernel_rfl) ?hst ?h0 (Ord.stepsP_cons ?s0 (Ord.stepsP_cons ?s1 (Ord.stepsP_cons ?s2 (Ord.stepsP_cons ?s3 (Ord.stepsP_cons ?s4 (Ord.stepsP_bad ?s5 (Ord.stepsP_bad ?s6 (Ord.stepsP_cons ?s7 (Ord.stepsP_nil))))))))) ?fin
             case s0=>
              intro g W L hL hSW hd
              try simp only[Nat.zero_add,Nat.reduceAdd]at hd ⊢
              with_reducible refine OpGives.pre_reads [] 113 ?_ ?_ ?_
              ·rfl
              ·kernel_rfl
              simp only[List.map_cons,List.map_nil]
              subst hSW;refine OpGives.val (v:=.pointer (some ⟨gO,3,none⟩)) (w':=wr.drew) ?_ ⟨ModB.refl b _,rfl,rfl⟩;go_simp
             case s1=>
              intro g W L hL hSW hd
              try simp only[Nat.zero_add,Nat.reduceAdd]at hd ⊢
              have h0:g 0=_:=hd 0 (by decide) (by kernel_rfl)
              with_reducible refine OpGives.pre_reads [(102,0)] 113 ?_ ?_ ?_
              ·rfl
              ·kernel_rfl
              simp only[List.map_cons,List.map_nil]
              subst hSW;refine OpGives.val (v:=.slice A acc.length cp) (w':=wr.drew) ?_ ⟨ModB.refl b _,rfl,rfl⟩;go_simp
             case s2=>
              intro g W L hL hSW hd
              try simp only[Nat.zero_add,Nat.reduceAdd]at hd ⊢
              with_reducible refine OpGives.pre_reads [] 113 ?_ ?_ ?_
              ·rfl
              ·kernel_rfl
              simp only[List.map_cons,List.map_nil]
              refine OpGives.val (w':=W) ?_ ⟨ModB.refl b _,rfl,hSW⟩
              go_simp
              try with_reducible rfl
             case s3=>
              intro g W L hL hSW hd
              try simp only[Nat.zero_add,Nat.reduceAdd]at hd ⊢
              with_reducible refine OpGives.pre_reads [] 113 ?_ ?_ ?_
              ·rfl
              ·kernel_rfl
              simp only[List.map_cons,List.map_nil]
              refine OpGives.val (w':=W) ?_ ⟨ModB.refl b _,rfl,hSW⟩
              go_simp
              try with_reducible rfl
             case s4=>
              intro g W L hL hSW hd
              try simp only[Nat.zero_add,Nat.reduceAdd]at hd ⊢
              have h3:g 3=_:=hd 3 (by decide) (by kernel_rfl)
              with_reducible refine OpGives.pre_reads [(105,3)] 113 ?_ ?_ ?_
              ·rfl
              ·kernel_rfl
              simp only[List.map_cons,List.map_nil]
              subst hSW;refine OpGives.val (v:=.int .i64 ((d:Int) - 1)) (w':=wr.drew) ?_ ⟨ModB.refl b _,rfl,rfl⟩;go_simp;rw[IntKind.wrap_i64];omega
             case s5=>
              intro g W L hL hSW hd
              try simp only[Nat.zero_add,Nat.reduceAdd]at hd ⊢
              have h2:g 2=_:=hd 2 (by decide) (by kernel_rfl)
              have h4:g 4=_:=hd 4 (by decide) (by kernel_rfl)
              with_reducible refine OpBad.pre_reads [(104,2),(106,4)] 113 ?_ ?_ ?_
              ·rfl
              ·kernel_rfl
              simp only[List.map_cons,List.map_nil]
              subst hSW;refine OpBad.call (f:=155) (args:=#[.pointer (some ⟨b,0,none⟩),.int .i64 ((d:Int) - 1)]) (w':=wr.drew) (by go_simp) (HCALL.out.mono fun e w9 he=>⟨_,he.2,fun a ha=>⟨ha,HX.out _ (HMW.out.trans ((ModB.refl b _).drew.trans he.1)),rfl⟩⟩)
             case s6=>
              intro g W L hL hSW hd
              try simp only[Nat.zero_add,Nat.reduceAdd]at hd ⊢
              have h5:=hd 5 (by decide) (by kernel_rfl)
              change (badM) (g 5) W at h5
              with_reducible refine OpBad.pre_reads [(107,5)] 113 ?_ ?_ ?_
              ·rfl
              ·kernel_rfl
              simp only[List.map_cons,List.map_nil]
              exact h5.elim
             case s7=>
              intro g W L hL hSW hd
              try simp only[Nat.zero_add,Nat.reduceAdd]at hd ⊢
              have h1:g 1=_:=hd 1 (by decide) (by kernel_rfl)
              have h6:=hd 6 (by decide) (by kernel_rfl)
              change (badM) (g 6) W at h6
              with_reducible refine OpGives.pre_reads [(103,1),(108,6)] 113 ?_ ?_ ?_
              ·rfl
              ·kernel_rfl
              simp only[List.map_cons,List.map_nil]
              exact h6.elim
             case hst=>exact facts_bad
             case h0=>rfl
             case fin=>exact fun v W L hL hSW hf=>(hf 5 (Nat.lt_of_lt_of_eq (by decide:5 < 8) rfl)).elim
            | ok x q'=>
             rw[hgq]at hcall hman
             have hvl:∀ k,(Value.slice A acc.length cp).ownBlock=some k→k < wr.heap.size:=fun k hk=>(own_lt_R hout.row k hk).2.2
             have hvg:∀ k,(Value.slice A acc.length cp).ownBlock=some k→gO < k:=fun k hk=>(own_lt_R hout.row k hk).1
             have hgl:gO < wr.heap.size:=(Array.getElem?_eq_some_iff.1 hout.blk).1
             have hbl2:b < wr.heap.size:=Nat.lt_of_lt_of_le hout.lt (Nat.le_trans hout.ge (Nat.le_of_lt hgl))
             have hbg:b≠gO:=by have:=hout.lt;have:=hout.ge;omega
             have hin:InR wr b gO s (.slice A acc.length cp) acc q q' (fun _=>false) wr.drew:=⟨ModV.drew,fun _=>Kd.R_below hout.row ((Below.refl _ _).drew),fun _=>hout.rd,fun e=>(by cases e)⟩
             have hq'2:q≤q'∧q'≤s.size∨True:=.inr trivial
             have HC:=Lib.hid (fun W (hrd:RdAt b s q W)=>hcall W hrd hq2)
             have HIN:=Lib.hid hin
             have HVL:=Lib.hid hvl
             have HVG:=Lib.hid hvg
             have HGL:=Lib.hid hgl
             have HBL2:=Lib.hid hbl2
             have HBG:=Lib.hid hbg
             have HOUT:=Lib.hid hout
             have HMAN:=Lib.hid hman
             have HAL:=Lib.hid hal
             clear hcall hman hgq hal hout hvl hvg hgl hbl2 hbg hin hq'2
             go_wp2_with fail
             refine' wp_region_factsM (S:=(InR wr b gO s (.slice A acc.length cp) acc q q')) (Rr b (.slice A acc.length cp)) [eqM (.pointer (some ⟨gO,3,none⟩)),eqM (.slice A acc.length cp),eqM (.pointer (some ⟨b,0,none⟩)),eqM (.int .i64 (d:Int)),eqM (.int .i64 ((d:Int) - 1)),childP b (.slice A acc.length cp) x wr.heap.size,litP b (.slice A acc.length cp) x wr.heap.size,rowP b gO (acc ++ [x])] (by kernel_rfl) (by kernel_rfl) ?hst ?h0 (Ord.stepsM_cons ?s0 (Ord.stepsM_cons ?s1 (Ord.stepsM_cons ?s2 (Ord.stepsM_cons ?s3 (Ord.stepsM_cons ?s4 (Ord.stepsM_cons ?s5 (Ord.stepsM_cons ?s6 (Ord.stepsM_cons ?s7 (Ord.stepsM_nil))))))))) ?fin
             case s0=>
              intro g W L hL hSW hd
              try simp only[Nat.zero_add,Nat.reduceAdd]at hd ⊢
              with_reducible refine OpGives.pre_reads [] 113 ?_ ?_ ?_
              ·rfl
              ·kernel_rfl
              simp only[List.map_cons,List.map_nil]
              refine OpGives.val (v:=.pointer (some ⟨gO,3,none⟩)) (w':=W) ?_ ⟨Rr.of_B (by decide) (ModB.refl b _),rfl,hSW⟩;go_simp
             case s1=>
              intro g W L hL hSW hd
              try simp only[Nat.zero_add,Nat.reduceAdd]at hd ⊢
              have h0:g 0=_:=hd 0 (by decide) (by kernel_rfl)
              with_reducible refine OpGives.pre_reads [(102,0)] 113 ?_ ?_ ?_
              ·rfl
              ·kernel_rfl
              simp only[List.map_cons,List.map_nil]
              have c1:W.cell? ⟨gO,3,none⟩=some (.slice A acc.length cp):=(by rw[Lib.cell_of_heap ((hSW.1.block gO HGL.out (Ne.symm HBG.out) (fun e=>Nat.lt_irrefl _ (HVG.out _ e))).trans HOUT.out.blk)];rfl);refine OpGives.val (v:=.slice A acc.length cp) (w':=W) ?_ ⟨Rr.of_B (by decide) (ModB.refl b _),rfl,hSW⟩;go_simp
             case s2=>
              intro g W L hL hSW hd
              try simp only[Nat.zero_add,Nat.reduceAdd]at hd ⊢
              with_reducible refine OpGives.pre_reads [] 113 ?_ ?_ ?_
              ·rfl
              ·kernel_rfl
              simp only[List.map_cons,List.map_nil]
              refine OpGives.val (w':=W) ?_ ⟨Rr.of_B (by decide) (ModB.refl b _),rfl,hSW⟩
              go_simp
              try with_reducible rfl
             case s3=>
              intro g W L hL hSW hd
              try simp only[Nat.zero_add,Nat.reduceAdd]at hd ⊢
              with_reducible refine OpGives.pre_reads [] 113 ?_ ?_ ?_
              ·rfl
              ·kernel_rfl
              simp only[List.map_cons,List.map_nil]
              refine OpGives.val (w':=W) ?_ ⟨Rr.of_B (by decide) (ModB.refl b _),rfl,hSW⟩
              go_simp
              try with_reducible rfl
             case s4=>
              intro g W L hL hSW hd
              try simp only[Nat.zero_add,Nat.reduceAdd]at hd ⊢
              have h3:g 3=_:=hd 3 (by decide) (by kernel_rfl)
              with_reducible refine OpGives.pre_reads [(105,3)] 113 ?_ ?_ ?_
              ·rfl
              ·kernel_rfl
              simp only[List.map_cons,List.map_nil]
              refine OpGives.val (v:=.int .i64 ((d:Int) - 1)) (w':=W) ?_ ⟨Rr.of_B (by decide) (ModB.refl b _),rfl,hSW⟩;go_simp;rw[IntKind.wrap_i64];omega
             case s5=>
              intro g W L hL hSW hd
              try simp only[Nat.zero_add,Nat.reduceAdd]at hd ⊢
              have h2:g 2=_:=hd 2 (by decide) (by kernel_rfl)
              have h4:g 4=_:=hd 4 (by decide) (by kernel_rfl)
              with_reducible refine OpGives.pre_reads [(104,2),(106,4)] 113 ?_ ?_ ?_
              ·rfl
              ·kernel_rfl
              simp only[List.map_cons,List.map_nil]
              refine OpGives.call (f:=155) (args:=#[.pointer (some ⟨b,0,none⟩),.int .i64 ((d:Int) - 1)]) (w':=W) (by go_simp) ((HC.out W (hSW.2.2.1 hL)).mono fun e w9 hp=>call_post hSW HBL2.out HVL.out hp)
             case s6=>
              intro g W L hL hSW hd
              try simp only[Nat.zero_add,Nat.reduceAdd]at hd ⊢
              have h5:=hd 5 (by decide) (by kernel_rfl)
              change (childP b (.slice A acc.length cp) x wr.heap.size) (g 5) W at h5
              with_reducible refine OpGives.pre_reads [(107,5)] 113 ?_ ?_ ?_
              ·rfl
              ·kernel_rfl
              simp only[List.map_cons,List.map_nil]
              obtain⟨v3,e5,hR5⟩:=h5;obtain⟨A3,c3',rfl⟩:=R_slice hR5;rw[e5];refine OpGives.val (v:=.slice (some ⟨W.heap.size,0,none⟩) 1 1) (w':=W.alloc (.cells #[.int .i64 x.f0,.int .i64 x.f1,.string x.f2,.slice A3 x.f3.length c3'] 32)) ?_ (lit_post hSW HBL2.out HVL.out rfl hR5);go_simp
             case s7=>
              intro g W L hL hSW hd
              try simp only[Nat.zero_add,Nat.reduceAdd]at hd ⊢
              have h1:g 1=_:=hd 1 (by decide) (by kernel_rfl)
              have h6:=hd 6 (by decide) (by kernel_rfl)
              change (litP b (.slice A acc.length cp) x wr.heap.size) (g 6) W at h6
              with_reducible refine OpGives.pre_reads [(103,1),(108,6)] 113 ?_ ?_ ?_
              ·rfl
              ·kernel_rfl
              simp only[List.map_cons,List.map_nil]
              obtain⟨v',W',hr,hg,hrow,hS'⟩:=append_cell hSW hL HBL2.out HGL.out HGL.out (fun k hk=>Nat.lt_of_lt_of_le HGL.out hk) h6 (by have:=HAL.out;omega) 30;rw[← h1]at hr;exact OpGives.val (v:=v') (w':=W') (exec_append _ _ _ rfl hr) ⟨Rr.of_grown hg,hrow,hS'⟩
             case hst=>exact facts_st
             case h0=>exact HIN.out
             case fin=>
              intro v W L hL hSW hf
              have h0:v 0=_:=hf 0 (Nat.lt_of_lt_of_eq (by decide:0 < 8) rfl)
              have h7:rowP b gO (acc ++ [x]) (v 7) W:=hf 7 (Nat.lt_of_lt_of_eq (by decide:7 < 8) rfl)
              clear hf
              have hrd:=hSW.2.2.2 (hL 5 (Nat.lt_of_lt_of_eq (by decide:5 < 8) rfl))
              have hmv:=hSW.1
              generalize hF:Ord.pre _ _ v _=F
              rw[Ord.pre_lit [some 102,some 103,some 104,some 105,some 106,some 107,some 108,some 109]
               (by kernel_rfl)]at hF
              simp only[Ord.puts,Nat.zero_add,Nat.reduceAdd]at hF
              subst hF
              obtain⟨A7,c7,e7⟩:=R_slice h7
              rw[e7]at h7 ⊢
              have hblk:=(hmv.block gO HGL.out (Ne.symm HBG.out) (fun e=>Nat.lt_irrefl _ (HVG.out _ e))).trans HOUT.out.blk
              have hdone:=out_step HOUT.out hmv h7 hrd.1
              have d3:W.cell? ⟨gO,3,none⟩=some (.slice A acc.length cp):=by rw[Lib.cell_of_heap hblk];rfl
              have f3:=Lib.frozen_of_heap hblk 3
              have hq12:=hrd.2
              have HD:=Lib.hid hdone
              clear hblk hdone hmv hrd h7 e7 hSW hL
              rw[h0]
              clear h0
              refine any_one (i:=8) (by kernel_rfl) ?_
              refine wpOp_value (v:=.pointer (some ⟨gO,3,none⟩)) (w':=W) rfl rfl (by go_simp) ?_
              refine any_one (i:=9) (by kernel_rfl) ?_
              refine wpOp_skip (w':=W.setCell ⟨gO,3,none⟩ (.slice A7 (acc ++ [x]).length c7)) rfl rfl (by go_simp) ?_
              refine wpAny_done (by kernel_rfl) ?_ _
              try simp only[List.getElem_toArray,List.getElem_cons_succ,List.getElem_cons_zero]
              go_frame
              clear d3 f3 c3
              generalize W.setCell ⟨gO,3,none⟩ (.slice A7 (acc ++ [x]).length c7)=W8 at *
              go_wp2_with fail
              go_roundw
              case rel=>exact⟨m+1,_,acc ++ [x],q',by omega,by go_num,by have:=HAL.out;simp;omega,HD.out,by omega,hq12.2,HMAN.out⟩
              case measure=>simp[intOf];omega
           ·have hmk':m=kk:=by omega
            rw[hmk',Nat.sub_self,manyW]at hman
            have e0:r = .ok ⟨3,0,⟨#[]⟩,acc⟩ q:=by rw[HRF.out,← hman]
            obtain⟨A,cp,rfl⟩:=R_slice hout.row
            have hg7:=(hout.mod.block _ (Array.getElem?_eq_some_iff.1 HG1.out).1 (by have:=HBL.out;omega)).trans HG1.out
            have z0:wr.cell? ⟨w.heap.size,0,none⟩=some (.int .i64 0):=by rw[Lib.cell_of_heap hg7];rfl
            have z1:wr.cell? ⟨w.heap.size,1,none⟩=some (.int .i64 0):=by rw[Lib.cell_of_heap hg7];rfl
            have z2:wr.cell? ⟨w.heap.size,2,none⟩=some (.string (⟨#[]⟩:ByteArray)):=by rw[Lib.cell_of_heap hg7];rfl
            have z3:wr.cell? ⟨w.heap.size,3,none⟩=some (.slice none 0 0):=by rw[Lib.cell_of_heap hg7];rfl
            have f0:=Lib.frozen_of_heap hg7 0
            have f1:=Lib.frozen_of_heap hg7 1
            have f2:=Lib.frozen_of_heap hg7 2
            have f3:=Lib.frozen_of_heap hg7 3
            have y0:wr.cell? ⟨gO,0,none⟩=some (.int .i64 3):=by rw[Lib.cell_of_heap hout.blk];rfl
            have y1:wr.cell? ⟨gO,1,none⟩=some (.int .i64 0):=by rw[Lib.cell_of_heap hout.blk];rfl
            have y2:wr.cell? ⟨gO,2,none⟩=some (.string (⟨#[]⟩:ByteArray)):=by rw[Lib.cell_of_heap hout.blk];rfl
            have y3:wr.cell? ⟨gO,3,none⟩=some (.slice A acc.length cp):=by rw[Lib.cell_of_heap hout.blk];rfl
            have HG7:=Lib.hid hg7
            have HOUT:=Lib.hid hout
            clear hg7 hout hman hmk' HRF HR hal
            subst e0
            go_wp2_with fail
            obtain⟨e1,e2,e3⟩:=fin_cell HBL.out (HX.out _ HOUT.out.mod) HOUT.out.rd (Nat.lt_succ_of_lt HGW.out) (Kd.R_mono HOUT.out.row (fun k hk=>hk.1)) (.int .i64 3) (.int .i64 0) (.string (⟨#[]⟩:ByteArray)) (.slice A acc.length cp)
            refine bodyPost_ret (results_cell_row rfl _ _ w.heap.size 32 #[.int .i64 3,.int .i64 0,.string (⟨#[]⟩:ByteArray),.slice A acc.length cp] (0,0) _ rfl (four_put HG7.out _ _ _ _) Tryz.underlying32 rfl (by kernel_rfl)) rfl ?_
            exact⟨e1,⟨_,rfl,e3⟩,e2,by omega,hq2⟩
     ·have e0:r = .bad p 5:=by rw[HR.out];exact if_pos (by rw[decide_eq_false hd0])
      rw[decide_eq_false hd0]
      refine(need_no _ _ _).mono ?_
      rintro e W' ⟨rfl,rfl⟩
      rw[e0]
      exact⟨rfl,HX.out _ HM3.out,rfl⟩
theorem cell_calls(s:ByteArray)(hs:s.size≤140737488355328)(b:Nat):∀ (d:Nat),d≤40→∀ (p:Nat) (w:World),RdAt b s p w→p≤s.size→
  Calls Tryz.prog 155 #[.pointer (some ⟨b,0,none⟩),.int .i64 (d:Int)] w (CellPost (cellD s d p) b s p w)
 | 0,_,p,w,h,hp=>by
  have:=cell_step 0 (by decide) s hs b (fun _=> .bad 0 0) (fun h0=>absurd h0 (by decide)) p w h hp
  rw[show decide (0 < 0)=false by rfl]at this
  exact this
 | d+1,hd,p,w,h,hp=>by
  have ih:=cell_calls s hs b d (by omega)
  have:=cell_step (d+1) hd s hs b (cellD s d) (fun _ p w h hp=>by
   rw[show(((d+1:Nat):Int) - 1)=(d:Int)by omega]
   exact ih p w h hp) p w h hp
  rw[show decide (0 < d+1)=true by simp]at this
  exact this
end Go.Proofs.YtlmabbigfdbmbaaGreatDoor.PShelfNil
namespace Go.Proofs.YtlmabbigfdbmbaaGreatDoor.PShelfNil
open Go.RowKit Go.Proofs.YtlmabbigfdbmbaaGreatDoor.Ord Go.Proofs.YtlmabbigfdbmbaaGreatDoorW.PrintWords Go.Proofs.YtlmabbigfdbmbaaGreatDoorW.PrintLast Go.Proofs.YtlmabbigfdbmbaaGreatDoorW.PrintMore
attribute [local irreducible] OpGives
attribute [local go_sem] rdl_const rdl_func rdl_global rdl_nil rdl_cons
structure Caught(c t f:Nat)(p e0:Int)(w w':World):Prop where
 os:w'.os=w.os
 tape:w'.tape=w.tape
 output:w'.output=w.output
 size:w.heap.size≤w'.heap.size
 block:∀ k,k < w.heap.size→k≠c→k≠t→k≠f→w'.heap[k]? = w.heap[k]?
 cc:w'.heap[c]? = some (.cells #[.int .i64 0,.int .i64 0,.string (⟨#[]⟩:ByteArray),.slice none 0 0] 32 (0,0))
 ct:w'.heap[t]? = some (.cells #[.int .i64 p] 3 (0,0))
 cf:w'.heap[f]? = some (.cells #[.int .i64 e0] 44 (0,0))
def put4(W:World)(g:Nat)(a b c d:Value):World:=(((W.setCell ⟨g,0,none⟩ a).setCell ⟨g,1,none⟩ b).setCell ⟨g,2,none⟩ c).setCell ⟨g,3,none⟩ d
theorem put4_same{W:World}{g:Nat}{ty:TypeId}{a b c d:Value}(h:W.heap[g]? = some (.cells #[a,b,c,d] ty (0,0)))(a' b' c' d':Value):(put4 W g a' b' c' d').heap[g]? = some (.cells #[a',b',c',d'] ty (0,0)):=four_put h a' b' c' d'
theorem set_far(W:World)(k b j:Nat)(v:Value)(h:k≠b):(W.setCell ⟨b,j,none⟩ v).heap[k]? = W.heap[k]? :=Below.heap_setCell W ⟨b,j,none⟩ v k h
theorem put4_far{W:World}{g k:Nat}(h:k≠g)(a b c d:Value):(put4 W g a b c d).heap[k]? = W.heap[k]? :=by
 unfold put4
 rw[set_far _ _ _ _ _ h,set_far _ _ _ _ _ h,set_far _ _ _ _ _ h,set_far _ _ _ _ _ h]
theorem put4_size(W:World)(g:Nat)(a b c d:Value):(put4 W g a b c d).heap.size=W.heap.size:=by simp[put4,World.setCell]
def caughtW(c t f:Nat)(p e0:Int)(W:World):World:=World.setCell (World.setCell (put4 W c (.int .i64 0) (.int .i64 0) (.string (⟨#[]⟩:ByteArray)) (.slice none 0 0)) ⟨t,0,none⟩ (.int .i64 p)) ⟨f,0,none⟩ (.int .i64 e0)
theorem caught_of{c t f:Nat}{p e0:Int}{a0 a1 a2 a3 b0 d0:Value}{w W1:World}(hct:c≠t)(hcf:c≠f)(htf:t≠f)(hn:Below w.heap.size w W1)
  (hc:W1.heap[c]? = some (.cells #[a0,a1,a2,a3] 32 (0,0))) (ht:W1.heap[t]? = some (.cells #[b0] 3 (0,0))) (hf:W1.heap[f]? = some (.cells #[d0] 44 (0,0))):Caught c t f p e0 w (caughtW c t f p e0 W1):=by
 obtain⟨W2,hW2⟩:∃ W2,W2=put4 W1 c (.int .i64 0) (.int .i64 0) (.string (⟨#[]⟩:ByteArray)) (.slice none 0 0):=⟨_,rfl⟩
 have h4:W2.heap[c]? = some (.cells #[.int .i64 0,.int .i64 0,.string (⟨#[]⟩:ByteArray),.slice none 0 0] 32 (0,0)):=by rw[hW2];exact put4_same hc _ _ _ _
 have far:∀ k,k≠c→W2.heap[k]? = W1.heap[k]? :=fun k hk=>by rw[hW2];exact put4_far hk _ _ _ _
 have hsz:W2.heap.size=W1.heap.size:=by rw[hW2];exact put4_size _ _ _ _ _ _
 have hos:W2.os=W1.os:=by rw[hW2];rfl
 have htp:W2.tape=W1.tape:=by rw[hW2];rfl
 have hou:W2.output=W1.output:=by rw[hW2];rfl
 have t1:=(far t (Ne.symm hct)).trans ht
 have f1:=(far f (Ne.symm hcf)).trans hf
 obtain⟨W3,hW3⟩:∃ W3,W3=W2.setCell ⟨t,0,none⟩ (.int .i64 p):=⟨_,rfl⟩
 have hfin:caughtW c t f p e0 W1=W3.setCell ⟨f,0,none⟩ (.int .i64 e0):=by rw[hW3,hW2];rfl
 have t3:W3.heap[t]? = some (.cells #[.int .i64 p] 3 (0,0)):=by rw[hW3];exact blk_put (cs:=#[b0]) t1 0 _ rfl
 have far3:∀ k,k≠t→W3.heap[k]? = W2.heap[k]? :=fun k hk=>by rw[hW3];exact set_far _ _ _ _ _ hk
 have hs3:W3.heap.size=W1.heap.size:=by rw[hW3,← hsz];simp[World.setCell]
 rw[hfin]
 refine⟨?_,?_,?_,?_,fun k hk h1 h2 h3=>?_,?_,?_,?_⟩
 ·show W3.os=_;rw[hW3];show W2.os=_;rw[hos];exact hn.os
 ·show W3.tape=_;rw[hW3];show W2.tape=_;rw[htp];exact hn.tape
 ·show W3.output=_;rw[hW3];show W2.output=_;rw[hou];exact hn.output
 ·have:=hn.size
  simp only[World.setCell,Array.size_modify];omega
 ·rw[set_far _ _ _ _ _ h3,far3 k h2,far k h1];exact hn.block k hk
 ·rw[set_far _ _ _ _ _ hcf,far3 c hct];exact h4
 ·rw[set_far _ _ _ _ _ htf];exact t3
 ·exact blk_put (cs:=#[d0]) ((far3 f (Ne.symm htf)).trans f1) 0 _ rfl
theorem Caught.drew{c t f:Nat}{p e0:Int}{w W:World}(h:Caught c t f p e0 w W):Caught c t f p e0 w W.drew:=⟨h.os,h.tape,h.output,h.size,h.block,h.cc,h.ct,h.cf⟩
theorem as_wrong(v:Value)(W:World):(Instr.typeAssert (.iface 254 v) 20 254 false).run Tryz.prog W = .ok v W:=by kernel_rfl
set_option maxHeartbeats 4000000 in
set_option maxRecDepth 100000 in
theorem catch_idle(v0 v1 v2:Value)(w:World) :
  CallsD Tryz.prog 154 #[v0,v1,v2] .returning w fun e u' w'=>e = .returned (.tuple #[])∧u' = .returning∧w'=w:=by
 refine callsD_of_wpS Tryz.func154 rfl fun c₀ cs hu=>?_
 apply wpS_seq
 apply wpS_region
 simp[wpOpsS,go_sem,recoverD,hu,Tryz.ntmps154,Exit.thenS]
 rw[show(#[v0,v1,v2]++((Array.replicate 12 undef).setIfInBounds 2 Value.nilIface).setIfInBounds 0 Value.nilIface)=#[v0,v1,v2,.nilIface,undef,.nilIface,undef,undef,undef,undef,undef,undef,undef,undef,undef]from rfl]
 refine wpS_of_wp ?_
 go_wp2
 cases c₀
 simp_all [bodyPostS,results,Tryz.results154]
set_option maxHeartbeats 4000000 in
set_option maxRecDepth 100000 in
theorem catch_wrong(c t f:Nat)(p e0:Int)(older:List PanicEntry)(a0 a1 a2 a3 b0 d0:Value)(w:World)(hct:c≠t)(hcf:c≠f)(htf:t≠f)
  (hc:w.heap[c]? = some (.cells #[a0,a1,a2,a3] 32 (0,0))) (ht:w.heap[t]? = some (.cells #[b0] 3 (0,0))) (hf:w.heap[f]? = some (.cells #[d0] 44 (0,0))) :
  CallsD Tryz.prog 154 #[.pointer (some ⟨c,0,none⟩),.pointer (some ⟨t,0,none⟩),.pointer (some ⟨f,0,none⟩)] (.panicking ({ v:=.iface 254 (.agg #[.int .i64 p,.int .i64 e0]),recovered:=false } :: older)) w fun e u' w'=>
   e = .returned (.tuple #[])∧u' = .panicking ({ v:=.iface 254 (.agg #[.int .i64 p,.int .i64 e0]),recovered:=true } :: older)∧Caught c t f p e0 w w':=by
 have q1:=as_wrong
 refine callsD_of_wpS Tryz.func154 rfl fun c₀ cs hu=>?_
 apply wpS_seq
 apply wpS_region
 simp[wpOpsS,go_sem,recoverD,hu,Tryz.ntmps154,Exit.thenS]
 rw[show ∀ (v0 v1 v2 v:Value),(#[v0,v1,v2]++((Array.replicate 12 undef).setIfInBounds 2 v).setIfInBounds 0 v)=#[v0,v1,v2,v,undef,v,undef,undef,undef,undef,undef,undef,undef,undef,undef]from fun _ _ _ _=>rfl]
 refine wpS_of_wp ?_
 have n1:c < w.heap.size:=(Array.getElem?_eq_some_iff.1 hc).1
 have n2:t < w.heap.size:=(Array.getElem?_eq_some_iff.1 ht).1
 have n3:f < w.heap.size:=(Array.getElem?_eq_some_iff.1 hf).1
 obtain⟨W1,hW1⟩:∃ W1,W1=w.alloc (.cells #[.int .i64 p,.int .i64 e0] 254):=⟨_,rfl⟩
 have HW1:=Lib.hid hW1
 have hn:Below w.heap.size w W1:=by rw[hW1];exact(Below.refl _ _).alloc (Nat.le_refl _) _
 have hg:W1.heap[w.heap.size]? = some (.cells #[.int .i64 p,.int .i64 e0] 254 (0,0)):=by rw[hW1];exact heap_alloc_last _ _
 have hc1:=(hn.block c n1).trans hc
 have ht1:=(hn.block t n2).trans ht
 have hf1:=(hn.block f n3).trans hf
 clear hW1 hc ht hf hn
 go_wp2
 rw[← HW1.out]
 have z0:W1.cell? ⟨c,0,none⟩=some a0:=by rw[Lib.cell_of_heap hc1];rfl
 have z1:W1.cell? ⟨c,1,none⟩=some a1:=by rw[Lib.cell_of_heap hc1];rfl
 have z2:W1.cell? ⟨c,2,none⟩=some a2:=by rw[Lib.cell_of_heap hc1];rfl
 have z3:W1.cell? ⟨c,3,none⟩=some a3:=by rw[Lib.cell_of_heap hc1];rfl
 have f0:=Lib.frozen_of_heap hc1 0
 have f1:=Lib.frozen_of_heap hc1 1
 have f2:=Lib.frozen_of_heap hc1 2
 have f3:=Lib.frozen_of_heap hc1 3
 have y0:W1.cell? ⟨t,0,none⟩=some b0:=by rw[Lib.cell_of_heap ht1];rfl
 have y1:W1.cell? ⟨f,0,none⟩=some d0:=by rw[Lib.cell_of_heap hf1];rfl
 have g0:=Lib.frozen_of_heap ht1 0
 have g1:=Lib.frozen_of_heap hf1 0
 have x0:W1.cell? ⟨w.heap.size,0,none⟩=some (.int .i64 p):=by rw[Lib.cell_of_heap hg];rfl
 have x1:W1.cell? ⟨w.heap.size,1,none⟩=some (.int .i64 e0):=by rw[Lib.cell_of_heap hg];rfl
 have hne1:w.heap.size≠c:=by omega
 have hne2:w.heap.size≠t:=by omega
 have hne3:w.heap.size≠f:=by omega
 have hd:=(caught_of (p:=p) (e0:=e0) (w:=w) (W1:=W1) hct hcf htf (by rw[HW1.out];exact(Below.refl _ _).alloc (Nat.le_refl _) _) hc1 ht1 hf1).drew
 have HD:=Lib.hid hd
 clear hd hg hc1 ht1 hf1
 go_region
 have hfin:=HD.out
 obtain⟨WF,hWF⟩:∃ WF,WF=(caughtW c t f p e0 W1).drew:=⟨_,rfl⟩
 rw[← hWF]at hfin
 unfold caughtW put4 at hWF
 rw[← hWF]
 clear hWF HD
 exact⟨rfl,_,rfl,_,results_none rfl _ _ _,rfl,rfl,hfin⟩
end Go.Proofs.YtlmabbigfdbmbaaGreatDoor.PShelfNil
namespace Go.Proofs.YtlmabbigfdbmbaaGreatDoor.PShelfNil
open Go.RowKit Go.Proofs.YtlmabbigfdbmbaaGreatDoor.Ord Go.Proofs.YtlmabbigfdbmbaaGreatDoorW.PrintWords Go.Proofs.YtlmabbigfdbmbaaGreatDoorW.PrintLast Go.Proofs.YtlmabbigfdbmbaaGreatDoorW.PrintMore
attribute [local irreducible] OpGives
attribute [local go_sem] rdl_const rdl_func rdl_global rdl_nil rdl_cons
def nextR(s:ByteArray)(a:Int):S32 × Nat × Nat:=
 if a < 0∨(s.size:Int) < a then (z32,0,2)else match cellD s 16 a.toNat with
 | .ok x q=>(x,q,0)
 | .bad p e=>(z32,p,e)
def NextPost(r:S32 × Nat × Nat)(w:World)(e:Ending)(w':World):Prop:=
 ∃ v3,e = .returned (.tuple #[.agg #[.int .i64 r.1.f0,.int .i64 r.1.f1,.string r.1.f2,v3],.int .i64 (r.2.1:Int),.int .i64 (r.2.2:Int)])∧Kd.R k32 32 w' w.heap.size (fun _=>True) v3 r.1.f3∧Below w.heap.size w w'
structure Stored(c t f:Nat)(u0 u1 u2 u3:Value)(p e0:Int)(w w':World):Prop where
 os:w'.os=w.os
 tape:w'.tape=w.tape
 output:w'.output=w.output
 size:w.heap.size≤w'.heap.size
 block:∀ k,k < w.heap.size→k≠c→k≠t→k≠f→w'.heap[k]? = w.heap[k]?
 cc:w'.heap[c]? = some (.cells #[u0,u1,u2,u3] 32 (0,0))
 ct:w'.heap[t]? = some (.cells #[.int .i64 p] 3 (0,0))
 cf:w'.heap[f]? = some (.cells #[.int .i64 e0] 44 (0,0))
def storeW(c t f:Nat)(u0 u1 u2 u3:Value)(p e0:Int)(W:World):World:=World.setCell (World.setCell (put4 W c u0 u1 u2 u3) ⟨t,0,none⟩ (.int .i64 p)) ⟨f,0,none⟩ (.int .i64 e0)
theorem stored_of{c t f:Nat}{u0 u1 u2 u3:Value}{p e0:Int}{a0 a1 a2 a3 b0 d0:Value}{w W1:World}(hct:c≠t)(hcf:c≠f)(htf:t≠f)(hn:Below w.heap.size w W1)
  (hc:W1.heap[c]? = some (.cells #[a0,a1,a2,a3] 32 (0,0))) (ht:W1.heap[t]? = some (.cells #[b0] 3 (0,0))) (hf:W1.heap[f]? = some (.cells #[d0] 44 (0,0))):Stored c t f u0 u1 u2 u3 p e0 w (storeW c t f u0 u1 u2 u3 p e0 W1):=by
 obtain⟨W2,hW2⟩:∃ W2,W2=put4 W1 c u0 u1 u2 u3:=⟨_,rfl⟩
 have h4:W2.heap[c]? = some (.cells #[u0,u1,u2,u3] 32 (0,0)):=by rw[hW2];exact put4_same hc _ _ _ _
 have far:∀ k,k≠c→W2.heap[k]? = W1.heap[k]? :=fun k hk=>by rw[hW2];exact put4_far hk _ _ _ _
 have hsz:W2.heap.size=W1.heap.size:=by rw[hW2];exact put4_size _ _ _ _ _ _
 have hos:W2.os=W1.os:=by rw[hW2];rfl
 have htp:W2.tape=W1.tape:=by rw[hW2];rfl
 have hou:W2.output=W1.output:=by rw[hW2];rfl
 have t1:=(far t (Ne.symm hct)).trans ht
 have f1:=(far f (Ne.symm hcf)).trans hf
 obtain⟨W3,hW3⟩:∃ W3,W3=W2.setCell ⟨t,0,none⟩ (.int .i64 p):=⟨_,rfl⟩
 have hfin:storeW c t f u0 u1 u2 u3 p e0 W1=W3.setCell ⟨f,0,none⟩ (.int .i64 e0):=by rw[hW3,hW2];rfl
 have t3:W3.heap[t]? = some (.cells #[.int .i64 p] 3 (0,0)):=by rw[hW3];exact blk_put (cs:=#[b0]) t1 0 _ rfl
 have far3:∀ k,k≠t→W3.heap[k]? = W2.heap[k]? :=fun k hk=>by rw[hW3];exact set_far _ _ _ _ _ hk
 have hs3:W3.heap.size=W1.heap.size:=by rw[hW3,← hsz];simp[World.setCell]
 rw[hfin]
 refine⟨?_,?_,?_,?_,fun k hk h1 h2 h3=>?_,?_,?_,?_⟩
 ·show W3.os=_;rw[hW3];show W2.os=_;rw[hos];exact hn.os
 ·show W3.tape=_;rw[hW3];show W2.tape=_;rw[htp];exact hn.tape
 ·show W3.output=_;rw[hW3];show W2.output=_;rw[hou];exact hn.output
 ·have:=hn.size
  simp only[World.setCell,Array.size_modify];omega
 ·rw[set_far _ _ _ _ _ h3,far3 k h2,far k h1];exact hn.block k hk
 ·rw[set_far _ _ _ _ _ hcf,far3 c hct];exact h4
 ·rw[set_far _ _ _ _ _ htf];exact t3
 ·exact blk_put (cs:=#[d0]) ((far3 f (Ne.symm htf)).trans f1) 0 _ rfl
theorem Stored.drew{c t f:Nat}{u0 u1 u2 u3:Value}{p e0:Int}{w W:World}(h:Stored c t f u0 u1 u2 u3 p e0 w W):Stored c t f u0 u1 u2 u3 p e0 w W.drew:=⟨h.os,h.tape,h.output,h.size,h.block,h.cc,h.ct,h.cf⟩
theorem allocs3(w:World)(o1 o2 o3:Obj):(((w.alloc o1).alloc o2).alloc o3).heap[w.heap.size]? = some o1∧(((w.alloc o1).alloc o2).alloc o3).heap[w.heap.size+1]? = some o2∧(((w.alloc o1).alloc o2).alloc o3).heap[w.heap.size+1+1]? = some o3∧(((w.alloc o1).alloc o2).alloc o3).heap.size=w.heap.size+1+1+1:=by
 have s1:(w.alloc o1).heap.size=w.heap.size+1:=by simp
 have s2:((w.alloc o1).alloc o2).heap.size=w.heap.size+1+1:=by simp
 have e2:=heap_alloc_last (w.alloc o1) o2
 have e3:=heap_alloc_last ((w.alloc o1).alloc o2) o3
 rw[s1]at e2
 rw[s2]at e3
 exact⟨(Lib.alloc_old _ _ _ (by omega)).trans ((Lib.alloc_old _ _ _ (by omega)).trans (heap_alloc_last _ _)),(Lib.alloc_old _ _ _ (by omega)).trans e2,e3,by simp⟩
theorem allocs4(w:World)(o1 o2 o3 o4:Obj):((((w.alloc o1).alloc o2).alloc o3).alloc o4).heap[w.heap.size]? = some o1∧((((w.alloc o1).alloc o2).alloc o3).alloc o4).heap[w.heap.size+1]? = some o2∧((((w.alloc o1).alloc o2).alloc o3).alloc o4).heap[w.heap.size+1+1]? = some o3∧
  ((((w.alloc o1).alloc o2).alloc o3).alloc o4).heap[w.heap.size+1+1+1]? = some o4∧((((w.alloc o1).alloc o2).alloc o3).alloc o4).heap.size=w.heap.size+1+1+1+1:=by
 obtain⟨h1,h2,h3,hs⟩:=allocs3 w o1 o2 o3
 have e4:=heap_alloc_last (((w.alloc o1).alloc o2).alloc o3) o4
 rw[hs]at e4
 exact⟨(Lib.alloc_old _ _ _ (by omega)).trans h1,(Lib.alloc_old _ _ _ (by omega)).trans h2,(Lib.alloc_old _ _ _ (by omega)).trans h3,e4,by simp⟩
theorem results_next(tmps:Array Value)(w:World)(c t f:Nat)(a0 a1 a2 a3:Value)(p e:Int)(h4:tmps.getD 4 undef = .pointer (some ⟨c,0,none⟩))(h5:tmps.getD 5 undef = .pointer (some ⟨t,0,none⟩))(h6:tmps.getD 6 undef = .pointer (some ⟨f,0,none⟩))
  (hc:w.heap[c]? = some (.cells #[a0,a1,a2,a3] 32 (0,0))) (ht:w.heap[t]? = some (.cells #[.int .i64 p] 3 (0,0))) (hf:w.heap[f]? = some (.cells #[.int .i64 e] 44 (0,0))) :
  (results Tryz.f120 tmps).run Tryz.prog w = .ok (.tuple #[.agg #[a0,a1,a2,a3],.int .i64 p,.int .i64 e]) w:=by
 have h4':tmps[4]?.getD undef = .pointer (some ⟨c,0,none⟩):=by simpa using h4
 have h5':tmps[5]?.getD undef = .pointer (some ⟨t,0,none⟩):=by simpa using h5
 have h6':tmps[6]?.getD undef = .pointer (some ⟨f,0,none⟩):=by simpa using h6
 have c5:w.cell? ⟨t,0,none⟩=some (.int .i64 p):=by rw[Lib.cell_of_heap ht];rfl
 have c6:w.cell? ⟨f,0,none⟩=some (.int .i64 e):=by rw[Lib.cell_of_heap hf];rfl
 have k0:w.cell? ⟨c,0,none⟩=some a0:=by rw[Lib.cell_of_heap hc];rfl
 have k1:w.cell? ⟨c,1,none⟩=some a1:=by rw[Lib.cell_of_heap hc];rfl
 have k2:w.cell? ⟨c,2,none⟩=some a2:=by rw[Lib.cell_of_heap hc];rfl
 have k3:w.cell? ⟨c,3,none⟩=some a3:=by rw[Lib.cell_of_heap hc];rfl
 simp[results,Tryz.results120,h4',h5',h6',asAddr,k0,k1,k2,k3,c5,c6,go_sem]
theorem nextR_out{s:ByteArray}{a:Int}(h:a < 0∨(s.size:Int) < a):nextR s a=(z32,0,2):=if_pos h
theorem nextR_ok{s:ByteArray}{p q:Nat}{x:S32}(h:p≤s.size)(hc:cellD s 16 p = .ok x q):nextR s (p:Int)=(x,q,0):=by
 unfold nextR
 rw[if_neg (by omega),Int.toNat_natCast,hc]
theorem nextR_bad{s:ByteArray}{p p' e':Nat}(h:p≤s.size)(hc:cellD s 16 p = .bad p' e'):nextR s (p:Int)=(z32,p',e'):=by
 unfold nextR
 rw[if_neg (by omega),Int.toNat_natCast,hc]
set_option maxHeartbeats 8000000 in
set_option maxRecDepth 100000 in
theorem Next_calls(s:ByteArray)(a:Int)(w:World)(hs:s.size≤140737488355328)(ha0 : -9223372036854775808≤a)(ha1:a≤9223372036854775807) :
  Calls Tryz.prog 120 #[.string s,.int .i64 a] w (NextPost (nextR s a) w):=by
 have hmf:∀ (fn:Fn) (first cap:Array Value) (w:World),(Instr.makeFunc fn first cap).run Tryz.prog w = .ok (.func fn first cap) w:=fun _ _ _ _=>rfl
 obtain⟨W3,hW3⟩:∃ W3:World,W3=((w.alloc (.cells #[.int .i64 0,.int .i64 0,.string (⟨#[]⟩:ByteArray),.slice none 0 0] 32)).alloc (.cells #[.int .i64 0] 3)).alloc (.cells #[.int .i64 2] 44):=⟨_,rfl⟩
 have b3:Below w.heap.size w W3:=by rw[hW3];exact(((Below.refl _ _).alloc (Nat.le_refl _) _).alloc (by simp) _).alloc (by simp;omega) _
 have h3:=allocs3 w (.cells #[.int .i64 0,.int .i64 0,.string (⟨#[]⟩:ByteArray),.slice none 0 0] 32) (.cells #[.int .i64 0] 3) (.cells #[.int .i64 2] 44)
 rw[← hW3]at h3
 obtain⟨hc3,ht3,hf3,_⟩:=h3
 by_cases hbad:a < 0∨(s.size:Int) < a
 ·rw[nextR_out hbad]
  have HW3:=Lib.hid hW3
  have fin:∀ tmps:Array Value,tmps.getD 4 undef = .pointer (some ⟨w.heap.size,0,none⟩)→tmps.getD 5 undef = .pointer (some ⟨w.heap.size+1,0,none⟩)→tmps.getD 6 undef = .pointer (some ⟨w.heap.size+1+1,0,none⟩)→
    bodyPostD Tryz.prog Tryz.f120 (NextPost (z32,0,2) w) Exit.ret { tmps:=tmps,defers:=[] } W3:=fun tmps h4 h5 h6=>
   ⟨_,results_next tmps W3 _ _ _ _ _ _ _ _ _ h4 h5 h6 hc3 ht3 hf3,_,rfl,Kd.R_nil _ _ _ _ _,b3⟩
  have FIN:=Lib.hid fin
  clear hW3 b3 hc3 ht3 hf3 fin
  by_cases h0:a < 0
  ·go_enter_defers Tryz.func120,Tryz.ntmps120
   go_wp2
   rw[← HW3.out]
   exact FIN.out _ rfl rfl rfl
  ·have h2:(s.size:Int) < a:=by omega
   clear hbad
   go_enter_defers Tryz.func120,Tryz.ntmps120
   go_wp2
   rw[← HW3.out]
   exact FIN.out _ rfl rfl rfl
 ·clear hW3 b3 hc3 ht3 hf3
  obtain⟨p,rfl⟩:∃ p:Nat,a=(p:Int):=⟨a.toNat,by omega⟩
  have hle:p≤s.size:=by omega
  obtain⟨rr,hrr⟩:∃ rr,rr=nextR s (p:Int):=⟨_,rfl⟩
  rw[← hrr]
  have HRRR:=Lib.hid hrr
  have HLE:=Lib.hid hle
  clear hrr
  have h1:¬ ((p:Int) < 0):=by omega
  have h2:¬ ((s.size:Int) < (p:Int)):=by omega
  obtain⟨W4,hW4⟩:∃ W4:World,W4=(((w.alloc (.cells #[.int .i64 0,.int .i64 0,.string (⟨#[]⟩:ByteArray),.slice none 0 0] 32)).alloc (.cells #[.int .i64 0] 3)).alloc (.cells #[.int .i64 0] 44)).alloc (.cells #[.string s,.int .i64 (p:Int)] 257):=⟨_,rfl⟩
  have b4:Below w.heap.size w W4:=by rw[hW4];exact((((Below.refl _ _).alloc (Nat.le_refl _) _).alloc (by simp) _).alloc (by simp;omega) _).alloc (by simp;omega) _
  have h4:=allocs4 w (.cells #[.int .i64 0,.int .i64 0,.string (⟨#[]⟩:ByteArray),.slice none 0 0] 32) (.cells #[.int .i64 0] 3) (.cells #[.int .i64 0] 44) (.cells #[.string s,.int .i64 (p:Int)] 257)
  rw[← hW4]at h4
  obtain⟨hc4,ht4,hf4,hr4,hsz4⟩:=h4
  have HCALL:=Lib.hid (cell_calls s hs (w.heap.size+1+1+1) 16 (by decide) p W4 hr4 hle)
  have HW4:=Lib.hid hW4
  clear hW4 hr4
  go_enter_defers Tryz.func120,Tryz.ntmps120
  go_wp2_with fail
  rw[← HW4.out]
  refine HCALL.out.mono ?_
  rintro e W5 ⟨hm,hp⟩
  have hc5:=(hm.block w.heap.size (by omega) (by omega)).trans hc4
  have ht5:=(hm.block (w.heap.size+1) (by omega) (by omega)).trans ht4
  have hf5:=(hm.block (w.heap.size+1+1) (by omega) (by omega)).trans hf4
  have hb5:Below w.heap.size w W5:=b4.trans (hm.below (by omega) (by omega))
  cases hcd:cellD s 16 p with
  | bad p' e'=>
   rw[hcd]at hp
   have he:e = .panicked (wrongP (p':Int) (e':Int)):=hp
   subst he
   refine leaves_cons (f:=154) (args:=#[.pointer (some ⟨w.heap.size,0,none⟩),.pointer (some ⟨w.heap.size+1,0,none⟩),.pointer (some ⟨w.heap.size+1+1,0,none⟩)]) (by simp) (by simp[go_sem]) ?_
   refine(catch_wrong _ _ _ (p':Int) (e':Int) [] _ _ _ _ _ _ W5 (by omega) (by omega) (by omega) hc5 ht5 hf5).mono ?_
   rintro e u' w'' ⟨rfl,rfl,hcg⟩
   have hfin:Below w.heap.size w w'':=⟨hcg.os.trans hb5.os,hcg.tape.trans hb5.tape,hcg.output.trans hb5.output,Nat.le_trans hb5.size hcg.size,fun k hk=>(hcg.block k (Nat.lt_of_lt_of_le hk hb5.size) (by omega) (by omega) (by omega)).trans (hb5.block k hk)⟩
   refine⟨_,results_next _ w'' _ _ _ _ _ _ _ _ _ rfl rfl rfl hcg.cc hcg.ct hcg.cf,?_⟩
   rw[HRRR.out,nextR_bad HLE.out hcd]
   exact⟨_,rfl,Kd.R_nil _ _ _ _ _,hfin⟩
  | ok x q=>
   rw[hcd]at hp
   obtain⟨⟨v3,he,hR⟩,hrd,hq⟩:=hp
   subst he
   obtain⟨A3,c3,rfl⟩:=R_slice hR
   have z0:W5.cell? ⟨w.heap.size,0,none⟩=some (.int .i64 0):=by rw[Lib.cell_of_heap hc5];rfl
   have z1:W5.cell? ⟨w.heap.size,1,none⟩=some (.int .i64 0):=by rw[Lib.cell_of_heap hc5];rfl
   have z2:W5.cell? ⟨w.heap.size,2,none⟩=some (.string (⟨#[]⟩:ByteArray)):=by rw[Lib.cell_of_heap hc5];rfl
   have z3:W5.cell? ⟨w.heap.size,3,none⟩=some (.slice none 0 0):=by rw[Lib.cell_of_heap hc5];rfl
   have f0:=Lib.frozen_of_heap hc5 0
   have f1:=Lib.frozen_of_heap hc5 1
   have f2:=Lib.frozen_of_heap hc5 2
   have f3:=Lib.frozen_of_heap hc5 3
   have HC5:=Lib.hid hc5
   have HT5:=Lib.hid ht5
   have HF5:=Lib.hid hf5
   have HB5:=Lib.hid hb5
   have HR:=Lib.hid hR
   have HRD:=Lib.hid hrd
   have HSZ:=Lib.hid hsz4
   have HS5:=Lib.hid hm.size
   clear hc5 ht5 hf5 hb5 hR hrd hm hc4 ht4 hf4 hsz4 b4
   go_wp2_with fail
   obtain⟨W6,hW6⟩:∃ W6,W6=put4 W5 w.heap.size (.int .i64 x.f0) (.int .i64 x.f1) (.string x.f2) (.slice A3 x.f3.length c3):=⟨_,rfl⟩
   have hc6:W6.heap[w.heap.size]? = some (.cells #[.int .i64 x.f0,.int .i64 x.f1,.string x.f2,.slice A3 x.f3.length c3] 32 (0,0)):=by rw[hW6];exact put4_same HC5.out _ _ _ _
   have hfar6:∀ k,k≠w.heap.size→W6.heap[k]? = W5.heap[k]? :=fun k hk=>by rw[hW6];exact put4_far hk _ _ _ _
   have hs6:W6.heap.size=W5.heap.size:=by rw[hW6];exact put4_size _ _ _ _ _ _
   have hb6:Below w.heap.size w W6:=⟨by rw[hW6];exact HB5.out.os,by rw[hW6];exact HB5.out.tape,by rw[hW6];exact HB5.out.output,by rw[hs6];exact HB5.out.size,fun k hk=>(hfar6 k (by omega)).trans (HB5.out.block k hk)⟩
   have ht6:=(hfar6 (w.heap.size+1) (by omega)).trans HT5.out
   have hf6:=(hfar6 (w.heap.size+1+1) (by omega)).trans HF5.out
   have hr6:W6.heap[w.heap.size+1+1+1]? = some (.cells #[.string s,.int .i64 (q:Int)] 257 (0,0)):=(hfar6 _ (by omega)).trans HRD.out
   have hR6:Kd.R k32 32 W6 w.heap.size (fun k=>k≠w.heap.size∧k≠w.heap.size+1∧k≠w.heap.size+1+1) (.slice A3 x.f3.length c3) x.f3:=by
    have h1:=Kd.R_mono (ok':=fun k=>w.heap.size+1+1+1+1≤k) (Kd.R_bound HR.out) (fun k hk=>by have:=HSZ.out;have:=hk.2.1;omega)
    have h2:=Kd.R_step (w1:=W6) h1 (fun k hk hl=>hfar6 k (by omega))
    exact Kd.R_mono (Kd.R_lower h2 (by have:=HSZ.out;omega)) (fun k hk=>by omega)
   unfold put4 at hW6
   rw[← hW6]
   clear hW6 hfar6 z0 z1 z2 z3 f0 f1 f2 f3
   have z0:W6.cell? ⟨w.heap.size,0,none⟩=some (.int .i64 x.f0):=by rw[Lib.cell_of_heap hc6];rfl
   have z1:W6.cell? ⟨w.heap.size,1,none⟩=some (.int .i64 x.f1):=by rw[Lib.cell_of_heap hc6];rfl
   have z2:W6.cell? ⟨w.heap.size,2,none⟩=some (.string x.f2):=by rw[Lib.cell_of_heap hc6];rfl
   have z3:W6.cell? ⟨w.heap.size,3,none⟩=some (.slice A3 x.f3.length c3):=by rw[Lib.cell_of_heap hc6];rfl
   have f0:=Lib.frozen_of_heap hc6 0
   have f1:=Lib.frozen_of_heap hc6 1
   have f2:=Lib.frozen_of_heap hc6 2
   have f3:=Lib.frozen_of_heap hc6 3
   have y0:W6.cell? ⟨w.heap.size+1,0,none⟩=some (.int .i64 0):=by rw[Lib.cell_of_heap ht6];rfl
   have y1:W6.cell? ⟨w.heap.size+1+1,0,none⟩=some (.int .i64 0):=by rw[Lib.cell_of_heap hf6];rfl
   have g0:=Lib.frozen_of_heap ht6 0
   have g1:=Lib.frozen_of_heap hf6 0
   have x1:W6.cell? ⟨w.heap.size+1+1+1,1,none⟩=some (.int .i64 (q:Int)):=by rw[Lib.cell_of_heap hr6];rfl
   have hd:=(stored_of (u0:=.int .i64 x.f0) (u1:=.int .i64 x.f1) (u2:=.string x.f2) (u3:=.slice A3 x.f3.length c3) (p:=(q:Int)) (e0:=0) (w:=w) (W1:=W6) (c:=w.heap.size) (t:=w.heap.size+1) (f:=w.heap.size+1+1) (by omega) (by omega) (by omega) hb6 hc6 ht6 hf6).drew
   have HD:=Lib.hid hd
   have HR6:=Lib.hid hR6
   have HCD:=Lib.hid hcd
   have HS6:=Lib.hid hs6
   have far:∀ k,k≠w.heap.size→k≠w.heap.size+1→k≠w.heap.size+1+1→(storeW w.heap.size (w.heap.size+1) (w.heap.size+1+1) (.int .i64 x.f0) (.int .i64 x.f1) (.string x.f2) (.slice A3 x.f3.length c3) (q:Int) 0 W6).drew.heap[k]? = W6.heap[k]? :=fun k h1 h2 h3=>by
    show(storeW w.heap.size (w.heap.size+1) (w.heap.size+1+1) (.int .i64 x.f0) (.int .i64 x.f1) (.string x.f2) (.slice A3 x.f3.length c3) (q:Int) 0 W6).heap[k]? = _
    unfold storeW
    rw[set_far _ _ _ _ _ h3,set_far _ _ _ _ _ h2,put4_far h1]
   have HFAR:=Lib.hid far
   clear hd hR6 hc6 ht6 hf6 hr6 hb6 hs6 far hmf hcd hq h1 h2 hbad hle ha0 ha1
   go_region
   obtain⟨WF,hWF⟩:∃ WF,WF=(storeW w.heap.size (w.heap.size+1) (w.heap.size+1+1) (.int .i64 x.f0) (.int .i64 x.f1) (.string x.f2) (.slice A3 x.f3.length c3) (q:Int) 0 W6).drew:=⟨_,rfl⟩
   have hst:=HD.out
   have hfr:=HFAR.out
   rw[← hWF]at hst hfr
   unfold storeW put4 at hWF
   rw[← hWF]
   have hRF:=Kd.R_step (w1:=WF) HR6.out (fun k hk hl=>hfr k hk.1 hk.2.1 hk.2.2)
   have HST:=Lib.hid hst
   have HRF:=Lib.hid (Kd.R_mono (ok':=fun _=>True) hRF (fun _ _=>trivial))
   clear hWF HD HFAR hst hfr hRF HR6 z0 z1 z2 z3 f0 f1 f2 f3 y0 y1 g0 g1 x1
   go_wp2_with fail
   refine leaves_cons (f:=154) (args:=#[.pointer (some ⟨w.heap.size,0,none⟩),.pointer (some ⟨w.heap.size+1,0,none⟩),.pointer (some ⟨w.heap.size+1+1,0,none⟩)]) (by simp) (by simp[go_sem]) ?_
   refine(catch_idle _ _ _ WF).mono ?_
   rintro e u' w'' ⟨rfl,rfl,rfl⟩
   have hcg:=HST.out
   have hfin:Below w.heap.size w w'':=⟨hcg.os,hcg.tape,hcg.output,hcg.size,fun k hk=>hcg.block k hk (by omega) (by omega) (by omega)⟩
   refine⟨_,results_next _ w'' _ _ _ _ _ _ _ _ _ rfl rfl rfl hcg.cc hcg.ct hcg.cf,?_⟩
   rw[HRRR.out,nextR_ok HLE.out HCD.out]
   exact⟨_,rfl,HRF.out,hfin⟩
end Go.Proofs.YtlmabbigfdbmbaaGreatDoor.PShelfNil
namespace Go.Proofs.YtlmabbigfdbmbaaGreatDoor.PShelfNil
open Go.RowKit Go.Proofs.YtlmabbigfdbmbaaGreatDoor.Ord Go.Proofs.YtlmabbigfdbmbaaGreatDoorW.PrintWords Go.Proofs.YtlmabbigfdbmbaaGreatDoorW.PrintLast Go.Proofs.YtlmabbigfdbmbaaGreatDoorW.PrintMore
def takeR(s:ByteArray):S32 × Nat:=if (nextR s 0).2.2≠0 then (z32,(nextR s 0).2.2)else if (nextR s 0).2.1 < s.size then (z32,4)else ((nextR s 0).1,0)
def TakePost(r:S32 × Nat)(w:World)(e:Ending)(w':World):Prop:=
 ∃ v3,e = .returned (.tuple #[.agg #[.int .i64 r.1.f0,.int .i64 r.1.f1,.string r.1.f2,v3],.int .i64 (r.2:Int)])∧Kd.R k32 32 w' w.heap.size (fun _=>True) v3 r.1.f3∧Below w.heap.size w w'
theorem results_take(tmps:Array Value)(w:World)(c:Nat)(a0 a1 a2 a3:Value)(h2:tmps.getD 2 undef = .pointer (some ⟨c,0,none⟩))
  (hc:w.heap[c]? = some (.cells #[a0,a1,a2,a3] 32 (0,0))) :
  (results Tryz.f84 tmps).run Tryz.prog w = .ok (.tuple #[.agg #[a0,a1,a2,a3],tmps.getD 3 undef]) w:=by
 have h2':tmps[2]?.getD undef = .pointer (some ⟨c,0,none⟩):=by simpa using h2
 have k0:w.cell? ⟨c,0,none⟩=some a0:=by rw[Lib.cell_of_heap hc];rfl
 have k1:w.cell? ⟨c,1,none⟩=some a1:=by rw[Lib.cell_of_heap hc];rfl
 have k2:w.cell? ⟨c,2,none⟩=some a2:=by rw[Lib.cell_of_heap hc];rfl
 have k3:w.cell? ⟨c,3,none⟩=some a3:=by rw[Lib.cell_of_heap hc];rfl
 simp[results,Tryz.results84,h2',asAddr,k0,k1,k2,k3,go_sem]
theorem fin_take{w W3:World}{base:Nat}{v:Value}{xs:List S32}(hb3:Below w.heap.size w W3)(hbase:w.heap.size≤base)(hR:Kd.R k32 32 W3 base (fun k=>k≠w.heap.size) v xs)(u0 u1 u2 u3:Value) :
  Kd.R k32 32 (put4 W3 w.heap.size u0 u1 u2 u3) w.heap.size (fun _=>True) v xs∧Below w.heap.size w (put4 W3 w.heap.size u0 u1 u2 u3):=by
 refine⟨Kd.R_mono (Kd.R_lower (Kd.R_step (w1:=put4 W3 w.heap.size u0 u1 u2 u3) hR (fun k hk _=>put4_far hk _ _ _ _)) hbase) (fun _ _=>trivial),?_⟩
 exact⟨hb3.os,hb3.tape,hb3.output,by rw[put4_size];exact hb3.size,fun k hk=>(put4_far (by omega) _ _ _ _).trans (hb3.block k hk)⟩
set_option maxHeartbeats 8000000 in
set_option maxRecDepth 100000 in
theorem Take_calls(s:ByteArray)(w:World)(hs:s.size≤140737488355328) :
  Calls Tryz.prog 84 #[.string s] w (TakePost (takeR s) w):=by
 obtain⟨W1,hW1⟩:∃ W1,W1=w.alloc (.cells #[.int .i64 0,.int .i64 0,.string (⟨#[]⟩:ByteArray),.slice none 0 0] 32):=⟨_,rfl⟩
 have hn1:Below w.heap.size w W1:=by rw[hW1];exact(Below.refl _ _).alloc (Nat.le_refl _) _
 have hg1:W1.heap[w.heap.size]? = some (.cells #[.int .i64 0,.int .i64 0,.string (⟨#[]⟩:ByteArray),.slice none 0 0] 32 (0,0)):=by rw[hW1];exact heap_alloc_last _ _
 obtain⟨rr,hrr⟩:∃ rr,rr=takeR s:=⟨_,rfl⟩
 rw[← hrr]
 unfold takeR at hrr
 obtain⟨⟨x,tq,f⟩,hnx⟩:∃ nx,nx=nextR s 0:=⟨_,rfl⟩
 rw[← hnx]at hrr
 simp only at hrr
 have hcall:=Next_calls s 0 W1 hs (by decide) (by decide)
 rw[← hnx]at hcall
 have HC:=Lib.hid hcall
 have HRR:=Lib.hid hrr
 have HW1:=Lib.hid hW1
 have HN1:=Lib.hid hn1
 have HG1:=Lib.hid hg1
 clear hcall hrr hW1 hn1 hg1 hnx
 go_enter Tryz.func84,Tryz.ntmps84
 go_wp2_with fail
 rw[← HW1.out]
 refine HC.out.mono ?_
 rintro e W2 ⟨v3,rfl,hR,hb2⟩
 simp only at hR ⊢
 obtain⟨A3,c3,rfl⟩:=R_slice hR
 have hs1:=(Array.getElem?_eq_some_iff.1 HG1.out).1
 obtain⟨W3,hW3⟩:∃ W3,W3=W2.alloc (.cells #[.int .i64 x.f0,.int .i64 x.f1,.string x.f2,.slice A3 x.f3.length c3] 32):=⟨_,rfl⟩
 have hn3:Below W2.heap.size W2 W3:=by rw[hW3];exact(Below.refl _ _).alloc (Nat.le_refl _) _
 have hg3:W3.heap[W2.heap.size]? = some (.cells #[.int .i64 x.f0,.int .i64 x.f1,.string x.f2,.slice A3 x.f3.length c3] 32 (0,0)):=by rw[hW3];exact heap_alloc_last _ _
 have hg2:=(hb2.block _ hs1).trans HG1.out
 have hs2:=hb2.size
 have hc3:=(hn3.block _ (Array.getElem?_eq_some_iff.1 hg2).1).trans hg2
 have hb3:Below w.heap.size w W3:=(HN1.out.trans (hb2.mono HN1.out.size)).trans (hn3.mono (Nat.le_trans HN1.out.size hs2))
 have hR3:=Kd.R_mono (ok':=fun k=>k≠w.heap.size) (Kd.R_bound (Kd.R_below hR hn3)) (fun k hk=>by have:=hk.2.1;omega)
 have HC33:=Lib.hid hc3
 have hbs:=HN1.out.size
 rw[hW3]at hc3 hg3
 have z0:(W2.alloc (.cells #[.int .i64 x.f0,.int .i64 x.f1,.string x.f2,.slice A3 x.f3.length c3] 32)).cell? ⟨w.heap.size,0,none⟩=some (.int .i64 0):=by rw[Lib.cell_of_heap hc3];rfl
 have z1:(W2.alloc (.cells #[.int .i64 x.f0,.int .i64 x.f1,.string x.f2,.slice A3 x.f3.length c3] 32)).cell? ⟨w.heap.size,1,none⟩=some (.int .i64 0):=by rw[Lib.cell_of_heap hc3];rfl
 have z2:(W2.alloc (.cells #[.int .i64 x.f0,.int .i64 x.f1,.string x.f2,.slice A3 x.f3.length c3] 32)).cell? ⟨w.heap.size,2,none⟩=some (.string (⟨#[]⟩:ByteArray)):=by rw[Lib.cell_of_heap hc3];rfl
 have z3:(W2.alloc (.cells #[.int .i64 x.f0,.int .i64 x.f1,.string x.f2,.slice A3 x.f3.length c3] 32)).cell? ⟨w.heap.size,3,none⟩=some (.slice none 0 0):=by rw[Lib.cell_of_heap hc3];rfl
 have f0:=Lib.frozen_of_heap hc3 0
 have f1:=Lib.frozen_of_heap hc3 1
 have f2:=Lib.frozen_of_heap hc3 2
 have f3:=Lib.frozen_of_heap hc3 3
 have HR3:=Lib.hid hR3
 have HB3:=Lib.hid hb3
 have HC3:=Lib.hid hc3
 have HW3:=Lib.hid hW3
 clear hR3 hb3 hc3 hg3 hn3 hR hW3 hg2 hb2
 by_cases he:f≠0
 ·have he':((f:Int) != 0)=true:=by simp;omega
  go_wp2_with fail
  rw[← HW3.out]
  obtain⟨e1,e2⟩:=fin_take HB3.out (Nat.le_refl _) (Kd.R_nil k32 32 W3 w.heap.size (fun k=>k≠w.heap.size)) (.int .i64 0) (.int .i64 0) (.string (⟨#[]⟩:ByteArray)) (.slice none 0 0)
  refine bodyPost_ret (results_take _ _ w.heap.size (.int .i64 0) (.int .i64 0) (.string (⟨#[]⟩:ByteArray)) (.slice none 0 0) rfl (four_put HC33.out _ _ _ _)) rfl ?_
  rw[HRR.out,if_pos he]
  exact⟨_,rfl,e1,e2⟩
 ·have he':((f:Int) != 0)=false:=by simp;omega
  by_cases hto:tq < s.size
  ·go_wp2_with fail
   rw[← HW3.out]
   obtain⟨e1,e2⟩:=fin_take HB3.out (Nat.le_refl _) (Kd.R_nil k32 32 W3 w.heap.size (fun k=>k≠w.heap.size)) (.int .i64 0) (.int .i64 0) (.string (⟨#[]⟩:ByteArray)) (.slice none 0 0)
   refine bodyPost_ret (results_take _ _ w.heap.size (.int .i64 0) (.int .i64 0) (.string (⟨#[]⟩:ByteArray)) (.slice none 0 0) rfl (four_put HC33.out _ _ _ _)) rfl ?_
   rw[HRR.out,if_neg he,if_pos hto]
   exact⟨_,rfl,e1,e2⟩
  ·go_wp2_with fail
   rw[← HW3.out]
   obtain⟨e1,e2⟩:=fin_take HB3.out hbs HR3.out (.int .i64 x.f0) (.int .i64 x.f1) (.string x.f2) (.slice A3 x.f3.length c3)
   refine bodyPost_ret (results_take _ _ w.heap.size (.int .i64 x.f0) (.int .i64 x.f1) (.string x.f2) (.slice A3 x.f3.length c3) rfl (four_put HC33.out _ _ _ _)) rfl ?_
   rw[HRR.out,if_neg he,if_neg hto]
   exact⟨_,rfl,e1,e2⟩
end Go.Proofs.YtlmabbigfdbmbaaGreatDoor.PShelfNil
namespace Go.Proofs.YtlmabbigfdbmbaaGreatDoor.PShelfNil
open Go.RowKit Go.Proofs.YtlmabbigfdbmbaaGreatDoor.Ord Go.Proofs.YtlmabbigfdbmbaaGreatDoorW.PrintWords Go.Proofs.YtlmabbigfdbmbaaGreatDoorW.PrintLast Go.Proofs.YtlmabbigfdbmbaaGreatDoorW.PrintMore
theorem wpList_value{P:Program}{ops:Array Oper}{Q:Exit→Act→World→Prop}{a:Act}{w w':World}{rest:List Oper}{o:Oper}{v:Value}(hg:o.guard=none)(hr:(execOp a.eval o).run P w = .ok (.value v) w')(h:wpList P ops Q rest (a.put o.dst v) w'):wpList P ops Q (o :: rest) a w:=
 wpList_plain hg fun K hK=>by unfold Oper.wp;rw[hr];exact hK _ _ h
theorem reps_cells{W:World}{ps:List S32}{cs:List Value}(h:Reps (k32.K W) 4 ps cs):∀ u∈cs,u.oneCell'=true:=by
 intro u hu
 obtain⟨j,hj⟩:=List.getElem?_of_mem hu
 have hjl:j < cs.length:=(List.getElem?_eq_some_iff.1 hj).1
 have hlen:=h.1
 have he:j / 4 < ps.length:=by omega
 have hp:=h.2 (j / 4) _ (List.getElem?_eq_getElem he)
 refine k32.K_one hp u (List.mem_of_getElem? (i:=j - j / 4 * 4) ?_)
 rw[List.getElem?_take,if_pos (by omega),List.getElem?_drop,show j / 4 * 4+(j - j / 4 * 4)=j by omega]
 exact hj
theorem append_copy{w W:World}{l:List S32}{ad:Addr}{c:Nat}(hA:Kd.C k32 w (some ad) l.length l)(hb0:Below w.heap.size w W)(hl:l.length≤1000000)(ty:TypeId) :
  ∃ inner A' c' W',(Builtin.append_ #[30,30] ty #[.slice none 0 0,.slice (some ad) l.length c]).run Tryz.prog W = .ok (.slice A' l.length c') W'∧Reps (k32.K w) 4 l inner∧W'.ownsRow W.heap.size 32 4 (.slice A' l.length c') l.length inner∧Below W.heap.size W W':=by
 obtain⟨inner,hr,hc⟩:=ReadsRow.inner_ hA
 obtain⟨i0,hi0,hz0,hz1,hz2⟩:=info_parts infoCell
 have hbn:(0+l.length) * 56≤1000000 * 56:=Nat.mul_le_mul (by omega) (Nat.le_refl _)
 obtain⟨v',W',hrun,hown,hg,_,hat⟩:=run_append_own_at (P:=Tryz.prog) W W.heap.size 30 ty 32 i0 _ 4 56 Tryz.underlying30 hi0 hz0 hz1 hz2 (by rfl) (by decide) (.slice none 0 0) 0 [] (World.ownsRow_nil _ _ _ _) ad l.length c inner hr.1 (fun j u hu=>pw_cell_below hb0 (hc j u hu)) (reps_cells hr)
  (by unfold maxLen;omega) (by omega) (Nat.le_refl _)
 rw[Nat.zero_add,List.nil_append]at hown
 have hb:Below W.heap.size W W':=⟨hg.os,hg.tape,hg.output,hg.size,fun k hk=>hg.block k hk (by simp[Value.ownBlock])⟩
 obtain⟨A',c',rfl,_⟩:=own_reads_row hown hr rfl
 exact⟨inner,A',c',W',hrun,hr,hown,hb⟩
set_option maxHeartbeats 4000000 in
set_option maxRecDepth 100000 in
theorem List_calls(l:List S32)(A:Option Addr)(c:Nat)(w:World)(hA:Kd.C k32 w A l.length l)(hlc:l.length≤c)(hl:l.length≤1000000) :
  Calls Tryz.prog 94 #[.slice A l.length c] w fun e w'=>∃ A' c',e = .returned (.agg #[.int .i64 3,.int .i64 0,.string (⟨#[]⟩:ByteArray),.slice A' l.length c'])∧Kd.C k32 w' A' l.length l∧l.length≤c'∧Below w.heap.size w w':=by
 obtain⟨W1,hW1⟩:∃ W1,W1=w.alloc (.cells #[.int .i64 0,.int .i64 0,.string (⟨#[]⟩:ByteArray),.slice none 0 0] 32):=⟨_,rfl⟩
 have hn1:Below w.heap.size w W1:=by rw[hW1];exact(Below.refl _ _).alloc (Nat.le_refl _) _
 have hg1:W1.heap[w.heap.size]? = some (.cells #[.int .i64 0,.int .i64 0,.string (⟨#[]⟩:ByteArray),.slice none 0 0] 32 (0,0)):=by rw[hW1];exact heap_alloc_last _ _
 cases A with
 | none=>
  have h0:l.length=0:=by
   rcases Nat.eq_zero_or_pos l.length with h | h
   ·exact h
   ·obtain⟨ad,e,_⟩:=hA.2.2 h;cases e
  have hl0:l = []:=List.eq_nil_of_length_eq_zero h0
  subst hl0
  clear h0
  have HW1:=Lib.hid hW1
  have HN1:=Lib.hid hn1
  have HG1:=Lib.hid hg1
  clear hW1 hn1 hg1
  go_enter Tryz.func94,Tryz.ntmps94
  go_wp2
  refine bodyPost_ret (results_cell_row rfl _ _ w.heap.size 32 #[.int .i64 3,.int .i64 0,.string (⟨#[]⟩:ByteArray),.slice none 0 0] (0,0) _ rfl (heap_alloc_last _ _) Tryz.underlying32 rfl (by kernel_rfl)) rfl ?_
  exact⟨none,0,rfl,Kd.C_nil _ _,Nat.le_refl _,(Below.refl _ _).alloc (Nat.le_refl _) _⟩
 | some ad=>
  obtain⟨inner,A',c',W',hr,hreps,hown,hb'⟩:=append_copy (c:=c) hA hn1 hl 30
  have hs1:=(Array.getElem?_eq_some_iff.1 hg1).1
  have hg2:=(hb'.block _ hs1).trans hg1
  have z0:W'.cell? ⟨w.heap.size,0,none⟩=some (.int .i64 0):=by rw[Lib.cell_of_heap hg2];rfl
  have z1:W'.cell? ⟨w.heap.size,1,none⟩=some (.int .i64 0):=by rw[Lib.cell_of_heap hg2];rfl
  have z2:W'.cell? ⟨w.heap.size,2,none⟩=some (.string (⟨#[]⟩:ByteArray)):=by rw[Lib.cell_of_heap hg2];rfl
  have z3:W'.cell? ⟨w.heap.size,3,none⟩=some (.slice none 0 0):=by rw[Lib.cell_of_heap hg2];rfl
  have f0:=Lib.frozen_of_heap hg2 0
  have f1:=Lib.frozen_of_heap hg2 1
  have f2:=Lib.frozen_of_heap hg2 2
  have f3:=Lib.frozen_of_heap hg2 3
  rw[hW1]at hr
  have HG2:=Lib.hid hg2
  have HN:=Lib.hid (hn1.trans (hb'.mono hn1.size))
  have HREPS:=Lib.hid hreps
  have HOWN:=Lib.hid hown
  have HS:=Lib.hid hb'.size
  have HS1:=Lib.hid hs1
  clear hg2 hb' hn1 hg1 hA hs1 hW1 hreps hown
  go_enter Tryz.func94,Tryz.ntmps94
  go_wp2_with (refine wpList_value rfl (exec_append _ _ 30 rfl hr) ?_)
  refine bodyPost_ret (results_cell_row rfl _ _ w.heap.size 32 #[.int .i64 3,.int .i64 0,.string (⟨#[]⟩:ByteArray),.slice A' l.length c'] (0,0) _ rfl (four_put HG2.out _ _ _ _) Tryz.underlying32 rfl (by kernel_rfl)) rfl ?_
  obtain⟨WF,hWF⟩:∃ WF,WF=put4 W' w.heap.size (.int .i64 3) (.int .i64 0) (.string (⟨#[]⟩:ByteArray)) (.slice A' l.length c'):=⟨_,rfl⟩
  have hfar:∀ k,k≠w.heap.size→WF.heap[k]? = W'.heap[k]? :=fun k hk=>by rw[hWF];exact put4_far hk _ _ _ _
  have hbF:Below w.heap.size w WF:=⟨by rw[hWF];exact HN.out.os,by rw[hWF];exact HN.out.tape,by rw[hWF];exact HN.out.output,by rw[hWF,put4_size];exact HN.out.size,fun k hk=>(hfar k (by omega)).trans (HN.out.block k hk)⟩
  have hreps:Reps (k32.K WF) 4 l inner:=⟨HREPS.out.1,fun j p hj=>k32.K_below hbF (HREPS.out.2 j p hj)⟩
  have hown:WF.ownsRow W1.heap.size 32 4 (.slice A' l.length c') l.length inner:=own_move HOWN.out (fun k hk=>hfar k (by have:=own_base HOWN.out k hk;have:=HS1.out;omega))
  unfold put4 at hWF
  rw[← hWF]
  obtain⟨A2,c2,e2,hrd⟩:=own_reads_row hown hreps rfl
  injection e2 with eA _ ec
  subst eA;subst ec
  exact⟨_,_,rfl,hrd,own_cap hown,hbF⟩
end Go.Proofs.YtlmabbigfdbmbaaGreatDoor.PShelfNil
namespace Go.Proofs.YtlmabbigfdbmbaaGreatDoor.PShelfNil
open Go.RowKit Go.Proofs.YtlmabbigfdbmbaaGreatDoor.Ord Go.Proofs.YtlmabbigfdbmbaaGreatDoorW.PrintWords Go.Proofs.YtlmabbigfdbmbaaGreatDoorW.PrintLast Go.Proofs.YtlmabbigfdbmbaaGreatDoorW.PrintMore
attribute [local irreducible] OpGives
abbrev rC(W:World)(base:Nat)(v:Value)(l:List S32):Prop:=Kd.R k32 32 W base (fun _=>True) v l
def cellF(base:Nat)(x:S32):Value→World→Prop:=fun u W=>∃ v3,u = .agg #[.int .i64 x.f0,.int .i64 x.f1,.string x.f2,v3]∧rC W base v3 x.f3
theorem cellF_below{base:Nat}{x:S32}{u:Value}{W W':World}(h:cellF base x u W)(hb:Below W.heap.size W W'):cellF base x u W':=by
 obtain⟨v3,e,hr⟩:=h
 exact⟨v3,e,Kd.R_below hr hb⟩
def CellPostR(base:Nat)(x:S32)(w:World)(e:Ending)(w':World):Prop:=∃ u,e = .returned u∧cellF base x u w'∧Below w.heap.size w w'
theorem cellF_M{base:Nat}{x:S32}{u:Value}{W:World}(h:cellF base x u W):Kd.M k32 W base (fun _=>True) x u.cells.toList:=by
 obtain⟨v3,rfl,hr⟩:=h
 exact k32_mkM W base _ x hr
theorem R_one{W:World}{base:Nat}{ok:Nat→Prop}{v:Value}{l:List S32}(h:Kd.R k32 32 W base ok v l):v.oneCell'=true:=by
 obtain⟨A,c,rfl,_⟩:=Kd.R_reads h
 rfl
def repsM(W:World)(base:Nat)(l:List S32)(inner:List Value):Prop:=Reps (Kd.M k32 W base (fun _=>True)) 4 l inner
theorem repsM_below{W W':World}{base:Nat}{l:List S32}{inner:List Value}(h:repsM W base l inner)(hb:Below W.heap.size W W'):repsM W' base l inner:=⟨h.1,fun j p hj=>Kd.M_below (h.2 j p hj) hb⟩
theorem repsM_nil(W:World)(base:Nat):repsM W base [] []:=Reps.none _ _
theorem cellF_len{base:Nat}{x:S32}{u:Value}{W:World}(h:cellF base x u W):u.cells.toList.length=4:=by
 obtain⟨v3,rfl,hr⟩:=h;rfl
theorem repsM_snoc{W:World}{base:Nat}{l:List S32}{inner:List Value}{x:S32}{u:Value}(h:repsM W base l inner)(hx:cellF base x u W):repsM W base (l ++ [x]) (inner++u.cells.toList):=
 Reps.snoc h (cellF_M hx) (cellF_len hx)
theorem repsM_K{W:World}{base:Nat}{l:List S32}{inner:List Value}(h:repsM W base l inner):Reps (k32.K W) 4 l inner:=⟨h.1,fun j p hj=>(k32).K_of_M (h.2 j p hj)⟩
theorem append_copyM{W:World}{base:Nat}{l:List S32}{ad:Addr}{c:Nat}{inner:List Value}(hr:repsM W base l inner)(hc:∀ j u,inner[j]? = some u→W.cell? (ad.add j)=some u)(hl:l.length≤1000000)(ty:TypeId) :
  ∃ A' c' W',(Builtin.append_ #[30,30] ty #[.slice none 0 0,.slice (some ad) l.length c]).run Tryz.prog W = .ok (.slice A' l.length c') W'∧W'.ownsRow W.heap.size 32 4 (.slice A' l.length c') l.length inner∧Below W.heap.size W W':=by
 obtain⟨i0,hi0,hz0,hz1,hz2⟩:=info_parts infoCell
 have hbn:(0+l.length) * 56≤1000000 * 56:=Nat.mul_le_mul (by omega) (Nat.le_refl _)
 obtain⟨v',W',hrun,hown,hg,_,hat⟩:=run_append_own_at (P:=Tryz.prog) W W.heap.size 30 ty 32 i0 _ 4 56 Tryz.underlying30 hi0 hz0 hz1 hz2 (by rfl) (by decide) (.slice none 0 0) 0 [] (World.ownsRow_nil _ _ _ _) ad l.length c inner hr.1 hc (reps_cells (repsM_K hr))
  (by unfold maxLen;omega) (by omega) (Nat.le_refl _)
 rw[Nat.zero_add,List.nil_append]at hown
 have hb:Below W.heap.size W W':=⟨hg.os,hg.tape,hg.output,hg.size,fun k hk=>hg.block k hk (by simp[Value.ownBlock])⟩
 obtain⟨A',c',rfl,_⟩:=own_reads_row hown (repsM_K hr) rfl
 exact⟨A',c',W',hrun,hown,hb⟩
def listC(l:List S32):S32:=⟨3,0,⟨#[]⟩,l⟩
set_option maxHeartbeats 4000000 in
set_option maxRecDepth 100000 in
theorem List_R(l:List S32)(A:Option Addr)(c:Nat)(w:World)(base:Nat)(inner:List Value)(hA:A=none→l = [])(hat:∀ ad,A=some ad→∀ j u,inner[j]? = some u→w.cell? (ad.add j)=some u)
  (hr:repsM w base l inner) (hl:l.length≤1000000) (hbase:base≤w.heap.size) :
  Calls Tryz.prog 94 #[.slice A l.length c] w (CellPostR base (listC l) w):=by
 obtain⟨W1,hW1⟩:∃ W1,W1=w.alloc (.cells #[.int .i64 0,.int .i64 0,.string (⟨#[]⟩:ByteArray),.slice none 0 0] 32):=⟨_,rfl⟩
 have hn1:Below w.heap.size w W1:=by rw[hW1];exact(Below.refl _ _).alloc (Nat.le_refl _) _
 have hg1:W1.heap[w.heap.size]? = some (.cells #[.int .i64 0,.int .i64 0,.string (⟨#[]⟩:ByteArray),.slice none 0 0] 32 (0,0)):=by rw[hW1];exact heap_alloc_last _ _
 cases A with
 | none=>
  have hl0:l = []:=hA rfl
  subst hl0
  have HW1:=Lib.hid hW1
  have HN1:=Lib.hid hn1
  have HG1:=Lib.hid hg1
  clear hW1 hn1 hg1 hat hr
  go_enter Tryz.func94,Tryz.ntmps94
  go_wp2
  refine bodyPost_ret (results_cell_row rfl _ _ w.heap.size 32 #[.int .i64 3,.int .i64 0,.string (⟨#[]⟩:ByteArray),.slice none 0 0] (0,0) _ rfl (heap_alloc_last _ _) Tryz.underlying32 rfl (by kernel_rfl)) rfl ?_
  exact⟨_,rfl,⟨_,rfl,Kd.R_nil _ _ _ _ _⟩,(Below.refl _ _).alloc (Nat.le_refl _) _⟩
 | some ad=>
  obtain⟨A',c',W',hrun,hown,hb'⟩:=append_copyM (c:=c) (repsM_below hr hn1) (fun j u hu=>pw_cell_below hn1 (hat ad rfl j u hu)) hl 30
  have hs1:=(Array.getElem?_eq_some_iff.1 hg1).1
  have hg2:=(hb'.block _ hs1).trans hg1
  have z0:W'.cell? ⟨w.heap.size,0,none⟩=some (.int .i64 0):=by rw[Lib.cell_of_heap hg2];rfl
  have z1:W'.cell? ⟨w.heap.size,1,none⟩=some (.int .i64 0):=by rw[Lib.cell_of_heap hg2];rfl
  have z2:W'.cell? ⟨w.heap.size,2,none⟩=some (.string (⟨#[]⟩:ByteArray)):=by rw[Lib.cell_of_heap hg2];rfl
  have z3:W'.cell? ⟨w.heap.size,3,none⟩=some (.slice none 0 0):=by rw[Lib.cell_of_heap hg2];rfl
  have f0:=Lib.frozen_of_heap hg2 0
  have f1:=Lib.frozen_of_heap hg2 1
  have f2:=Lib.frozen_of_heap hg2 2
  have f3:=Lib.frozen_of_heap hg2 3
  rw[hW1]at hrun
  have HG2:=Lib.hid hg2
  have HN:=Lib.hid (hn1.trans (hb'.mono hn1.size))
  have HR:=Lib.hid hr
  have HOWN:=Lib.hid hown
  have HS:=Lib.hid hb'.size
  have HS1:=Lib.hid hs1
  clear hg2 hb' hn1 hg1 hA hs1 hW1 hr hown hat
  go_enter Tryz.func94,Tryz.ntmps94
  go_wp2_with (refine wpList_value rfl (exec_append _ _ 30 rfl hrun) ?_)
  refine bodyPost_ret (results_cell_row rfl _ _ w.heap.size 32 #[.int .i64 3,.int .i64 0,.string (⟨#[]⟩:ByteArray),.slice A' l.length c'] (0,0) _ rfl (four_put HG2.out _ _ _ _) Tryz.underlying32 rfl (by kernel_rfl)) rfl ?_
  obtain⟨WF,hWF⟩:∃ WF,WF=put4 W' w.heap.size (.int .i64 3) (.int .i64 0) (.string (⟨#[]⟩:ByteArray)) (.slice A' l.length c'):=⟨_,rfl⟩
  have hfar:∀ k,k≠w.heap.size→WF.heap[k]? = W'.heap[k]? :=fun k hk=>by rw[hWF];exact put4_far hk _ _ _ _
  have hbF:Below w.heap.size w WF:=⟨by rw[hWF];exact HN.out.os,by rw[hWF];exact HN.out.tape,by rw[hWF];exact HN.out.output,by rw[hWF,put4_size];exact HN.out.size,fun k hk=>(hfar k (by omega)).trans (HN.out.block k hk)⟩
  have hown:WF.ownsRow W1.heap.size 32 4 (.slice A' l.length c') l.length inner:=own_move HOWN.out (fun k hk=>hfar k (by have:=own_base HOWN.out k hk;have:=HS1.out;omega))
  have hne:∀ k,k < w.heap.size→some k≠(Value.slice A' l.length c').ownBlock:=fun k hk e=>by
   have:=own_base HOWN.out k e.symm;have:=HS1.out;omega
  have hR:rC WF base (.slice A' l.length c') l:=by
   refine⟨fun _ _=>trivial,inner,own_weaken hown (by have:=HS1.out;omega),HR.out.1,fun j p hj=>?_⟩
   have h1:=(k32).M_mono (ok':=fun k=>True∧some k≠(Value.slice A' l.length c').ownBlock) (fun k hk=>⟨trivial,hne k hk.2.2.1⟩) ((k32).M_bound (HR.out.2 j p hj))
   exact Kd.M_step h1 (fun k _ hk=>hbF.block k hk)
  unfold put4 at hWF
  rw[← hWF]
  exact⟨_,rfl,⟨_,rfl,hR⟩,hbF⟩
theorem append_item{W:World}{b0 lo:Nat}{v:Value}{acc:List S32}{x:S32}{g:Nat}{v3:Value}(hR:rC W b0 v acc)(hv:∀ k,v.ownBlock=some k→k < lo)(hb0:b0≤lo)(hgl:lo≤g)
  (hg:W.heap[g]? = some (.cells #[.int .i64 x.f0,.int .i64 x.f1,.string x.f2,v3] 32 (0,0))) (hr3:rC W lo v3 x.f3) (hn:acc.length≤1000000) (ty:TypeId) :
  ∃ v' W',(Builtin.append_ #[30,30] ty #[v,.slice (some ⟨g,0,none⟩) 1 1]).run Tryz.prog W = .ok v' W'∧W.grownBy W' v.ownBlock∧rC W' b0 v' (acc ++ [x]):=by
 obtain⟨i0,hi0,hz0,hz1,hz2⟩:=info_parts infoCell
 have h1:=R_one hr3
 have hgs:=(Array.getElem?_eq_some_iff.1 hg).1
 obtain⟨h0,inner,hown,hreps⟩:=hR
 have hbn:(acc.length+1) * 56≤1000001 * 56:=Nat.mul_le_mul (by omega) (Nat.le_refl _)
 obtain⟨h,cap,W',hr,hown',hgr,hat,_⟩:=run_append_lies (P:=Tryz.prog) W 30 ty b0 32 i0 _ 4 56 Tryz.underlying30 hi0 hz0 hz1 hz2 (by rfl) (by decide) v acc.length _ hown ⟨g,0,none⟩ 1 1 [.int .i64 x.f0,.int .i64 x.f1,.string x.f2,v3]
  (by rfl) (World.news_of_block (cs:=#[.int .i64 x.f0,.int .i64 x.f1,.string x.f2,v3]) hg) (by
   intro u hu
   simp only[List.mem_cons,List.not_mem_nil,or_false]at hu
   rcases hu with rfl | rfl | rfl | rfl
   ·rfl
   ·rfl
   ·rfl
   ·exact h1) (by decide) (by unfold maxLen;omega) (by omega) (by omega) W.heap.size rfl
 have hm3:Kd.M k32 W b0 (fun k=>lo≤k) x [.int .i64 x.f0,.int .i64 x.f1,.string x.f2,v3]:=
  k32_mkM W b0 _ x (Kd.R_lower (Kd.R_mono (Kd.R_bound hr3) (fun k hk=>hk.2.1)) hb0)
 have hres:=Kd.R_appended (d:=k32) (e:=32) (base:=b0) (ok:=fun _=>True) (W:=W) (w1:=W') (v:=v) (v1:=.slice (some ⟨h,0,none⟩) (acc.length+1) cap) h0 hreps hm3 (fun k hk=>⟨trivial,fun e=>by have:=hv k e.symm;omega⟩) (fun k hk=>trivial) hown' hgr
  (hat.elim (fun e=> .inl (by rw[e];rfl)) (fun e=> .inr ⟨h,rfl,by omega⟩))
 exact⟨_,W',hr,hgr,hres⟩
theorem grown_below{W W':World}{b0:Nat}{v:Value}{w:World}{acc:List S32}(hR:rC W b0 v acc)(h:W.grownBy W' v.ownBlock)(hb:Below b0 w W)(hs:b0≤W.heap.size):Below b0 w W':=by
 have:Below b0 W W':=⟨h.os,h.tape,h.output,h.size,fun k hk=>by
  by_cases e:some k=v.ownBlock
  ·obtain⟨_,inner,hown,_⟩:=hR
   have:=own_base hown k e.symm;omega
  ·exact h.block k (by omega) e⟩
 exact hb.trans this
def litC(lo:Nat)(xs:List S32):Value→World→Prop:=fun u W=>
 ∃ g cs,u = .slice (some ⟨g,0,none⟩) xs.length xs.length∧lo≤g∧W.heap[g]? = some (.cells cs.toArray 32 (0,0))∧repsM W lo xs cs
theorem litC_below{lo:Nat}{xs:List S32}{u:Value}{W W':World}(h:litC lo xs u W)(hb:Below W.heap.size W W'):litC lo xs u W':=by
 obtain⟨g,cs,e,hl,hg,hr⟩:=h
 exact⟨g,cs,e,hl,(hb.block g (Array.getElem?_eq_some_iff.1 hg).1).trans hg,repsM_below hr hb⟩
theorem litC_of{lo:Nat}{xs:List S32}{us:List Value}{W:World}(hr:repsM W lo xs (us.flatMap fun v=>v.cells.toList))(hlo:lo≤W.heap.size) :
  litC lo xs (.slice (some ⟨W.heap.size,0,none⟩) xs.length xs.length) (W.alloc (.cells (us.flatMap fun v=>v.cells.toList).toArray 32)):=
 ⟨_,_,rfl,hlo,heap_alloc_last _ _,repsM_below hr ((Below.refl _ _).alloc (Nat.le_refl _) _)⟩
theorem lit_run(W:World)(us:List Value)(n:Nat)(parts:Array (Nat × Value))(hp:parts.toList=(us.zipIdx 0).map fun x=>(x.2,x.1))(hn:0 < n)(hl:us.length=n)(hsm:n≤1000)(h1:∀ v∈us,v.cells.size=4) :
  (Instr.buildSlice 30 n parts).run Tryz.prog W = .ok (.slice (some ⟨W.heap.size,0,none⟩) n n) (W.alloc (.cells (us.flatMap fun v=>v.cells.toList).toArray 32)):=
 run_lit W 30 32 4 n us parts _ 56 Tryz.underlying30 infoCell hp (by decide) hn hl (by omega) h1
theorem repsM_1{W:World}{lo:Nat}{x1:S32}{u1:Value}(h1:cellF lo x1 u1 W):repsM W lo [x1] ([u1].flatMap fun v=>v.cells.toList):=by
 simpa using repsM_snoc (repsM_nil W lo) h1
theorem repsM_2{W:World}{lo:Nat}{x1 x2:S32}{u1 u2:Value}(h1:cellF lo x1 u1 W)(h2:cellF lo x2 u2 W):repsM W lo [x1,x2] ([u1,u2].flatMap fun v=>v.cells.toList):=by
 simpa using repsM_snoc (repsM_snoc (repsM_nil W lo) h1) h2
theorem repsM_3{W:World}{lo:Nat}{x1 x2 x3:S32}{u1 u2 u3:Value}(h1:cellF lo x1 u1 W)(h2:cellF lo x2 u2 W)(h3:cellF lo x3 u3 W):repsM W lo [x1,x2,x3] ([u1,u2,u3].flatMap fun v=>v.cells.toList):=by
 simpa using repsM_snoc (repsM_snoc (repsM_snoc (repsM_nil W lo) h1) h2) h3
theorem repsM_4{W:World}{lo:Nat}{x1 x2 x3 x4:S32}{u1 u2 u3 u4:Value}(h1:cellF lo x1 u1 W)(h2:cellF lo x2 u2 W)(h3:cellF lo x3 u3 W)(h4:cellF lo x4 u4 W):repsM W lo [x1,x2,x3,x4] ([u1,u2,u3,u4].flatMap fun v=>v.cells.toList):=by
 simpa using repsM_snoc (repsM_snoc (repsM_snoc (repsM_snoc (repsM_nil W lo) h1) h2) h3) h4
theorem repsM_5{W:World}{lo:Nat}{x1 x2 x3 x4 x5:S32}{u1 u2 u3 u4 u5:Value}(h1:cellF lo x1 u1 W)(h2:cellF lo x2 u2 W)(h3:cellF lo x3 u3 W)(h4:cellF lo x4 u4 W)(h5:cellF lo x5 u5 W):repsM W lo [x1,x2,x3,x4,x5] ([u1,u2,u3,u4,u5].flatMap fun v=>v.cells.toList):=by
 simpa using repsM_snoc (repsM_snoc (repsM_snoc (repsM_snoc (repsM_snoc (repsM_nil W lo) h1) h2) h3) h4) h5
theorem cellF_size{base:Nat}{x:S32}{u:Value}{W:World}(h:cellF base x u W):u.cells.size=4:=by
 obtain⟨v3,rfl,hr⟩:=h;rfl
theorem lit_run1{W:World}{lo:Nat}{x1:S32}{u1:Value}(h1:cellF lo x1 u1 W)(parts:Array (Nat × Value))(hp:parts.toList = [(0,u1)]) :
  (Instr.buildSlice 30 1 parts).run Tryz.prog W = .ok (.slice (some ⟨W.heap.size,0,none⟩) 1 1) (W.alloc (.cells ([u1].flatMap fun v=>v.cells.toList).toArray 32)):=
 lit_run W [u1] 1 parts (by rw[hp];rfl) (by decide) rfl (by decide) (fun v hv=>by
  simp only[List.mem_cons,List.not_mem_nil,or_false]at hv
  rcases hv with rfl
  exact cellF_size h1)
theorem lit_run2{W:World}{lo:Nat}{x1 x2:S32}{u1 u2:Value}(h1:cellF lo x1 u1 W)(h2:cellF lo x2 u2 W)(parts:Array (Nat × Value))(hp:parts.toList = [(0,u1),(1,u2)]) :
  (Instr.buildSlice 30 2 parts).run Tryz.prog W = .ok (.slice (some ⟨W.heap.size,0,none⟩) 2 2) (W.alloc (.cells ([u1,u2].flatMap fun v=>v.cells.toList).toArray 32)):=
 lit_run W [u1,u2] 2 parts (by rw[hp];rfl) (by decide) rfl (by decide) (fun v hv=>by
  simp only[List.mem_cons,List.not_mem_nil,or_false]at hv
  rcases hv with rfl | rfl
  all_goals first | exact cellF_size h1 | exact cellF_size h2)
theorem lit_run3{W:World}{lo:Nat}{x1 x2 x3:S32}{u1 u2 u3:Value}(h1:cellF lo x1 u1 W)(h2:cellF lo x2 u2 W)(h3:cellF lo x3 u3 W)(parts:Array (Nat × Value))(hp:parts.toList = [(0,u1),(1,u2),(2,u3)]) :
  (Instr.buildSlice 30 3 parts).run Tryz.prog W = .ok (.slice (some ⟨W.heap.size,0,none⟩) 3 3) (W.alloc (.cells ([u1,u2,u3].flatMap fun v=>v.cells.toList).toArray 32)):=
 lit_run W [u1,u2,u3] 3 parts (by rw[hp];rfl) (by decide) rfl (by decide) (fun v hv=>by
  simp only[List.mem_cons,List.not_mem_nil,or_false]at hv
  rcases hv with rfl | rfl | rfl
  all_goals first | exact cellF_size h1 | exact cellF_size h2 | exact cellF_size h3)
theorem lit_run4{W:World}{lo:Nat}{x1 x2 x3 x4:S32}{u1 u2 u3 u4:Value}(h1:cellF lo x1 u1 W)(h2:cellF lo x2 u2 W)(h3:cellF lo x3 u3 W)(h4:cellF lo x4 u4 W)(parts:Array (Nat × Value))(hp:parts.toList = [(0,u1),(1,u2),(2,u3),(3,u4)]) :
  (Instr.buildSlice 30 4 parts).run Tryz.prog W = .ok (.slice (some ⟨W.heap.size,0,none⟩) 4 4) (W.alloc (.cells ([u1,u2,u3,u4].flatMap fun v=>v.cells.toList).toArray 32)):=
 lit_run W [u1,u2,u3,u4] 4 parts (by rw[hp];rfl) (by decide) rfl (by decide) (fun v hv=>by
  simp only[List.mem_cons,List.not_mem_nil,or_false]at hv
  rcases hv with rfl | rfl | rfl | rfl
  all_goals first | exact cellF_size h1 | exact cellF_size h2 | exact cellF_size h3 | exact cellF_size h4)
theorem lit_run5{W:World}{lo:Nat}{x1 x2 x3 x4 x5:S32}{u1 u2 u3 u4 u5:Value}(h1:cellF lo x1 u1 W)(h2:cellF lo x2 u2 W)(h3:cellF lo x3 u3 W)(h4:cellF lo x4 u4 W)(h5:cellF lo x5 u5 W)(parts:Array (Nat × Value))(hp:parts.toList = [(0,u1),(1,u2),(2,u3),(3,u4),(4,u5)]) :
  (Instr.buildSlice 30 5 parts).run Tryz.prog W = .ok (.slice (some ⟨W.heap.size,0,none⟩) 5 5) (W.alloc (.cells ([u1,u2,u3,u4,u5].flatMap fun v=>v.cells.toList).toArray 32)):=
 lit_run W [u1,u2,u3,u4,u5] 5 parts (by rw[hp];rfl) (by decide) rfl (by decide) (fun v hv=>by
  simp only[List.mem_cons,List.not_mem_nil,or_false]at hv
  rcases hv with rfl | rfl | rfl | rfl | rfl
  all_goals first | exact cellF_size h1 | exact cellF_size h2 | exact cellF_size h3 | exact cellF_size h4 | exact cellF_size h5)
theorem List_lit{lo:Nat}{xs:List S32}{u:Value}{W:World}(h:litC lo xs u W)(hl:xs.length≤1000000)(hlo:lo≤W.heap.size):Calls Tryz.prog 94 #[u] W (CellPostR lo (listC xs) W):=by
 obtain⟨g,cs,rfl,_,hg,hr⟩:=h
 refine List_R xs (some ⟨g,0,none⟩) xs.length W lo cs (fun e=>by cases e) (fun ad e j u hu=>?_) hr hl hlo
 cases e
 have hc:=Lib.cell_of_heap hg j
 have e1:(⟨g,0,none⟩:Addr).add j=⟨g,j,none⟩:=by simp[Addr.add,eq_comm]
 rw[e1,hc]
 simpa using hu
theorem List_own{base:Nat}{xs:List S32}{v:Value}{W:World}(h:rC W base v xs)(hl:xs.length≤1000000)(hlo:base≤W.heap.size):Calls Tryz.prog 94 #[v] W (CellPostR base (listC xs) W):=by
 obtain⟨_,inner,hown,hreps⟩:=h
 have hr:repsM W base xs inner:=⟨hreps.1,fun j p hj=>(k32).M_mono (fun _ _=>trivial) (hreps.2 j p hj)⟩
 have hR:rC W base v xs:=⟨fun _ _=>trivial,inner,hown,hreps⟩
 obtain⟨A,c,rfl,hlc,hC⟩:=Kd.R_reads hR
 refine List_R xs A c W base inner (fun e=>?_) (fun ad e j u hu=>?_) hr hl hlo
 ·subst e
  rcases Nat.eq_zero_or_pos xs.length with h0 | h0
  ·exact List.eq_nil_of_length_eq_zero h0
  ·obtain⟨ad,e,_⟩:=hC.2.2 h0;cases e
 ·subst e
  rcases hown.2 with ⟨e1,_⟩ | ⟨g,cap,cur,e1,_⟩
  ·cases e1
  ·injection e1 with e2 _ _
   cases e2
   exact hown.cells (g:=g) rfl j u hu
theorem append_lit{W:World}{b0 lo:Nat}{v:Value}{acc:List S32}{x:S32}{u:Value}(hR:rC W b0 v acc)(hv:∀ k,v.ownBlock=some k→k < lo)(hb0:b0≤lo)
  (h:litC lo [x] u W) (hn:acc.length≤1000000) (ty:TypeId) :
  ∃ v' W',(Builtin.append_ #[30,30] ty #[v,u]).run Tryz.prog W = .ok v' W'∧W.grownBy W' v.ownBlock∧rC W' b0 v' (acc ++ [x]):=by
 obtain⟨g,cs,rfl,hlg,hg,hr⟩:=h
 have h4:cs.length=4:=by have:=hr.1;simpa using this
 have hM:Kd.M k32 W lo (fun _=>True) x cs:=by
  have:=hr.2 0 x rfl
  rwa [Nat.zero_mul,List.drop_zero,← h4,List.take_length]at this
 obtain⟨v3,rfl,hr3⟩:=k32_openM hM
 exact append_item hR hv hb0 hlg hg hr3 hn ty
end Go.Proofs.YtlmabbigfdbmbaaGreatDoor.PShelfNil
namespace Go.Proofs.YtlmabbigfdbmbaaGreatDoor.PShelfNil
open Go.RowKit Go.Proofs.YtlmabbigfdbmbaaGreatDoor.Ord Go.Proofs.YtlmabbigfdbmbaaGreatDoor.Obj Go.Proofs.YtlmabbigfdbmbaaGreatDoorW.PrintWords Go.Proofs.YtlmabbigfdbmbaaGreatDoorW.PrintLast Go.Proofs.YtlmabbigfdbmbaaGreatDoorW.PrintMore
attribute [local irreducible] OpGives
attribute [local go_sem] rdl_const rdl_func rdl_global rdl_nil rdl_cons
def numC(n:Int):S32:=⟨1,n,⟨#[]⟩,[]⟩
def textC(s:ByteArray):S32:=⟨2,0,s,[]⟩
def valC(v:S172):S32:=if v.f0=2 then textC v.f2 else numC v.f1
def rowC(x:S174):S32:=listC [numC x.f0,numC x.f1,valC x.f2]
def rowsC(l:List S174):S32:=listC (l.map rowC)
set_option maxRecDepth 100000 in
theorem num_R(n:Int)(base:Nat)(w:World):Calls Tryz.prog 184 #[.int .i64 n] w (fun e w'=>e = .returned (.agg #[.int .i64 1,.int .i64 n,.string (⟨#[]⟩:ByteArray),.slice none 0 0])∧Below w.heap.size w w'):=by
 go_enter Tryz.func184,Tryz.ntmps184
 go_wp2
 refine bodyPost_ret (results_cell_row rfl _ _ w.heap.size 32 #[.int .i64 1,.int .i64 n,.string (⟨#[]⟩:ByteArray),.slice none 0 0] (0,0) _ rfl (heap_alloc_last _ _) Tryz.underlying32 rfl (by kernel_rfl)) rfl ?_
 exact⟨rfl,(Below.refl _ _).alloc (Nat.le_refl _) _⟩
set_option maxRecDepth 100000 in
theorem text_R(s:ByteArray)(base:Nat)(w:World):Calls Tryz.prog 93 #[.string s] w (fun e w'=>e = .returned (.agg #[.int .i64 2,.int .i64 0,.string s,.slice none 0 0])∧Below w.heap.size w w'):=by
 go_enter Tryz.func93,Tryz.ntmps93
 go_wp2
 refine bodyPost_ret (results_cell_row rfl _ _ w.heap.size 32 #[.int .i64 2,.int .i64 0,.string s,.slice none 0 0] (0,0) _ rfl (heap_alloc_last _ _) Tryz.underlying32 rfl (by kernel_rfl)) rfl ?_
 exact⟨rfl,(Below.refl _ _).alloc (Nat.le_refl _) _⟩
theorem num_F(n:Int)(base:Nat)(W:World):cellF base (numC n) (.agg #[.int .i64 1,.int .i64 n,.string (⟨#[]⟩:ByteArray),.slice none 0 0]) W:=⟨_,rfl,Kd.R_nil _ _ _ _ _⟩
theorem text_F(s:ByteArray)(base:Nat)(W:World):cellF base (textC s) (.agg #[.int .i64 2,.int .i64 0,.string s,.slice none 0 0]) W:=⟨_,rfl,Kd.R_nil _ _ _ _ _⟩
def valV(v:S172):Value:=.agg #[.int .i64 (valC v).f0,.int .i64 (valC v).f1,.string (valC v).f2,.slice none 0 0]
theorem val_F(v:S172)(base:Nat)(W:World):cellF base (valC v) (valV v) W:=by
 unfold valV valC
 split<;>exact⟨_,rfl,Kd.R_nil _ _ _ _ _⟩
theorem rC_put{W:World}{b b0 g:Nat}{v:Value}{l:List S32}(h:rC W b v l)(hg:g < b)(hb:b0≤b)(a0 a1 a2 a3:Value):rC (put4 W g a0 a1 a2 a3) b0 v l:=
 Kd.R_mono (Kd.R_lower (Kd.R_step (Kd.R_bound h) (fun k hk _=>put4_far (by have:=hk.2.1;omega) _ _ _ _)) hb) (fun _ _=>trivial)
theorem put4_below{w W:World}(h:Below w.heap.size w W)(a0 a1 a2 a3:Value):Below w.heap.size w (put4 W w.heap.size a0 a1 a2 a3):=
 ⟨h.os,h.tape,h.output,by rw[put4_size];exact h.size,fun k hk=>(put4_far (by omega) _ _ _ _).trans (h.block k hk)⟩
set_option maxHeartbeats 16000000 in
set_option maxRecDepth 100000 in
theorem rows_calls(l:List S174)(A:Option Addr)(c:Nat)(w:World)(hA:Kd.C k174 w A l.length l)(hc:l.length≤c)(hl:l.length≤1000000) :
  Calls Tryz.prog 257 #[.slice A l.length c] w (CellPostR w.heap.size (rowsC l) w):=by
 obtain⟨W1,hW1⟩:∃ W1,W1=w.alloc (.cells #[.int .i64 0,.int .i64 0,.string (⟨#[]⟩:ByteArray),.slice none 0 0] 32):=⟨_,rfl⟩
 have hn1:Below w.heap.size w W1:=by rw[hW1];exact(Below.refl _ _).alloc (Nat.le_refl _) _
 have hg1:W1.heap[w.heap.size]? = some (.cells #[.int .i64 0,.int .i64 0,.string (⟨#[]⟩:ByteArray),.slice none 0 0] 32 (0,0)):=by rw[hW1];exact heap_alloc_last _ _
 have hs1:W1.heap.size=w.heap.size+1:=by rw[hW1];simp
 obtain⟨i0,hi0,hz0,hz1,hz2⟩:=info_parts infoCell
 obtain⟨W2,hmk,hown2,hgr2⟩:=run_make_own (P:=Tryz.prog) W1 W1.heap.size 30 32 i0 _ 4 Tryz.underlying30 hi0 hz0 hz1 .i64 .i64 l.length (by rw[hz2];omega) (by unfold maxLen;omega) (Nat.le_refl _)
 have hb2:Below W1.heap.size W1 W2:=⟨hgr2.os,hgr2.tape,hgr2.output,hgr2.size,fun k hk=>hgr2.block k hk (by simp)⟩
 have hr2:rC W2 W1.heap.size (.slice (some ⟨W1.heap.size,0,none⟩) 0 l.length) []:=⟨fun _ _=>trivial,[],hown2,Reps.none _ _⟩
 have HR2:=Lib.hid hr2
 have HB2:=Lib.hid hb2
 have HN1:=Lib.hid hn1
 have HG1:=Lib.hid hg1
 have HS1:=Lib.hid hs1
 have HA:=Lib.hid hA
 rw[hW1]at hmk
 have HW1:=Lib.hid hW1
 clear hW1 hn1 hg1 hs1 hi0 hz0 hz1 hz2 hown2 hgr2 hb2 hr2 hA
 go_enter Tryz.func257,Tryz.ntmps257
 go_wp2_with fail
 clear hmk
 go_loopw [3,12] (fun v i wr=>∃ k:Nat,i = .int .i64 (k:Int)∧k≤l.length∧rC wr W1.heap.size v ((l.take k).map rowC)∧Below W1.heap.size W1 wr) (fun _ i _=>l.length - (intOf i).toNat)
 case atStart=>exact⟨0,rfl,Nat.zero_le _,by rw[← HS1.out];exact HR2.out,HB2.out⟩
 case round=>
  obtain⟨i,rfl,hi,hrow,hbe⟩:=hrel
  have HROW:=Lib.hid hrow
  have HBE:=Lib.hid hbe
  have hb1:=HN1.out.trans (hbe.mono HN1.out.size)
  have HB1:=Lib.hid hb1
  clear hrow hbe hb1
  by_cases hil:i < l.length
  ·obtain⟨x,hx⟩:∃ x,l[i]? = some x:=⟨_,List.getElem?_eq_getElem hil⟩
   obtain⟨ad,rfl,c0,c1,c2,c3,c4,hbk⟩:=row_at (Kd.C_below HA.out HB1.out) hx
   have HX:=Lib.hid hx
   clear hx
   have hlen:((l.take i).map rowC).length≤1000000:=by rw[List.length_map,List.length_take];omega
   have hown:∀ k,u3.ownBlock=some k→k < wr.heap.size:=fun k hk=>by
    obtain⟨_,inner,ho,_⟩:=HROW.out
    exact own_lt ho k hk
   have HLEN:=Lib.hid hlen
   have HOWN:=Lib.hid hown
   clear hlen hown
   go_wp2_with fail
   obtain⟨W3,hW3⟩:∃ W3,W3=wr.alloc (.cells #[.int .i64 x.f0,.int .i64 x.f1,.int .i64 x.f2.f0,.int .i64 x.f2.f1,.string x.f2.f2] 174):=⟨_,rfl⟩
   rw[← hW3]
   have hn3:Below wr.heap.size wr W3:=by rw[hW3];exact(Below.refl _ _).alloc (Nat.le_refl _) _
   have hg3:W3.heap[wr.heap.size]? = some (.cells #[.int .i64 x.f0,.int .i64 x.f1,.int .i64 x.f2.f0,.int .i64 x.f2.f1,.string x.f2.f2] 174 (0,0)):=by rw[hW3];exact alloc_lastV _ _
   clear hW3 c0 c1 c2 c3 c4 hbk
   refine(num_R x.f2.f1 0 W3).mono ?_
   rintro e W4 ⟨rfl,hb4⟩
   have hg4:=(hb4.block _ (Array.getElem?_eq_some_iff.1 hg3).1).trans hg3
   have hb34:Below wr.heap.size wr W4:=hn3.trans (hb4.mono hn3.size)
   obtain⟨W5,hW5⟩:∃ W5,W5=W4.alloc (.cells #[.int .i64 1,.int .i64 x.f2.f1,.string (⟨#[]⟩:ByteArray),.slice none 0 0] 32):=⟨_,rfl⟩
   have hn5:Below W4.heap.size W4 W5:=by rw[hW5];exact(Below.refl _ _).alloc (Nat.le_refl _) _
   have hc5:W5.heap[W4.heap.size]? = some (.cells #[.int .i64 1,.int .i64 x.f2.f1,.string (⟨#[]⟩:ByteArray),.slice none 0 0] 32 (0,0)):=by rw[hW5];exact alloc_lastV _ _
   have hx5:=(hn5.block _ (Array.getElem?_eq_some_iff.1 hg4).1).trans hg4
   have hb5:Below wr.heap.size wr W5:=hb34.trans (hn5.mono hb34.size)
   obtain⟨d0,d1,d2,d3,d4⟩:=box5 hx5
   have hs34:=(Array.getElem?_eq_some_iff.1 hg4).1
   rw[hW5]at d0 d1 d2 d3 d4
   have HX5:=Lib.hid hx5
   have HC5:=Lib.hid hc5
   have HB5:=Lib.hid hb5
   have HW5:=Lib.hid hW5
   clear hn3 hg3 hb4 hg4 hb34 hn5 hx5 hc5 hb5 hW5
   by_cases hk2:x.f2.f0=2
   ·have hk2':(x.f2.f0 == 2)=true:=by simpa using hk2
    have hval:valC x.f2=textC x.f2.f2:=by unfold valC;rw[if_pos hk2]
    have HVAL:=Lib.hid hval
    clear hk2 hval
    go_wp2_with fail
    rw[← HW5.out]
    clear d0 d1 d2 d3 d4
    refine(text_R x.f2.f2 0 W5).mono ?_
    rintro e W6 ⟨rfl,hb6⟩
    have hx6:=(hb6.block _ (Array.getElem?_eq_some_iff.1 HX5.out).1).trans HX5.out
    have hc6:=(hb6.block _ (Array.getElem?_eq_some_iff.1 HC5.out).1).trans HC5.out
    have z0:W6.cell? ⟨W4.heap.size,0,none⟩=some (.int .i64 1):=by rw[Lib.cell_of_heap hc6];rfl
    have z1:W6.cell? ⟨W4.heap.size,1,none⟩=some (.int .i64 x.f2.f1):=by rw[Lib.cell_of_heap hc6];rfl
    have z2:W6.cell? ⟨W4.heap.size,2,none⟩=some (.string (⟨#[]⟩:ByteArray)):=by rw[Lib.cell_of_heap hc6];rfl
    have z3:W6.cell? ⟨W4.heap.size,3,none⟩=some (.slice none 0 0):=by rw[Lib.cell_of_heap hc6];rfl
    have f0:=Lib.frozen_of_heap hc6 0
    have f1:=Lib.frozen_of_heap hc6 1
    have f2:=Lib.frozen_of_heap hc6 2
    have f3:=Lib.frozen_of_heap hc6 3
    have d0:=(box5 hx6).1
    obtain⟨W7,hW7⟩:∃ W7,W7=put4 W6 W4.heap.size (.int .i64 2) (.int .i64 0) (.string x.f2.f2) (.slice none 0 0):=⟨_,rfl⟩
    have hc7:W7.heap[W4.heap.size]? = some (.cells #[.int .i64 (valC x.f2).f0,.int .i64 (valC x.f2).f1,.string (valC x.f2).f2,.slice none 0 0] 32 (0,0)):=by
     rw[HVAL.out,hW7];exact four_put hc6 _ _ _ _
    have hfar:∀ k,k≠W4.heap.size→W7.heap[k]? = W6.heap[k]? :=fun k hk=>by rw[hW7];exact put4_far hk _ _ _ _
    have hx7:=(hfar wr.heap.size (by have:=(Array.getElem?_eq_some_iff.1 HX5.out).1;have:=HB5.out.size;have:=hs34;omega)).trans hx6
    have hb7:Below wr.heap.size wr W7:=by
     have h1:Below wr.heap.size wr W6:=HB5.out.trans (hb6.mono HB5.out.size)
     exact⟨by rw[hW7];exact h1.os,by rw[hW7];exact h1.tape,by rw[hW7];exact h1.output,by rw[hW7,put4_size];exact h1.size,fun k hk=>(hfar k (by omega)).trans (h1.block k hk)⟩
    have HX7:=Lib.hid hx7
    have HC7:=Lib.hid hc7
    have HB7:=Lib.hid hb7
    unfold put4 at hW7
    have HW7:=Lib.hid hW7
    clear hx6 hc6 hc7 hfar hx7 hb7 hW7 hb6
    have d1:True:=trivial
    have d2:True:=trivial
    have d3:True:=trivial
    have d4:True:=trivial
    go_wp2_with fail
    rw[← HW7.out]
    clear z0 z1 z2 z3 f0 f1 f2 f3 d0 d1 d2 d3 d4
    have hcl:∀ W,Below W7.heap.size W7 W→W.cell? ⟨wr.heap.size,0,none⟩=some (.int .i64 x.f0)∧W.cell? ⟨wr.heap.size,1,none⟩=some (.int .i64 x.f1)∧W.cell? ⟨W4.heap.size,0,none⟩=some (.int .i64 (valC x.f2).f0)∧W.cell? ⟨W4.heap.size,1,none⟩=some (.int .i64 (valC x.f2).f1)∧W.cell? ⟨W4.heap.size,2,none⟩=some (.string (valC x.f2).f2)∧W.cell? ⟨W4.heap.size,3,none⟩=some (.slice none 0 0):=fun W hW=>by
     have hx:=(hW.block _ (Array.getElem?_eq_some_iff.1 HX7.out).1).trans HX7.out
     have hc:=(hW.block _ (Array.getElem?_eq_some_iff.1 HC7.out).1).trans HC7.out
     refine⟨?_,?_,?_,?_,?_,?_⟩<;>first | (rw[Lib.cell_of_heap hx];rfl) | (rw[Lib.cell_of_heap hc];rfl)
    have HCL:=Lib.hid hcl
    have hlo:W7.heap.size≤W7.heap.size:=Nat.le_refl _
    clear hcl
    refine' wp_region_factsM (S:=(fun _ W=>Below W7.heap.size W7 W)) (fun _ W W'=>Below W.heap.size W W') [eqM _,eqM _,eqM (.int .i64 x.f0),cellF W7.heap.size (numC x.f0),eqM _,eqM (.int .i64 x.f1),cellF W7.heap.size (numC x.f1),cellF W7.heap.size (valC x.f2),litC W7.heap.size [numC x.f0,numC x.f1,valC x.f2],cellF W7.heap.size (rowC x),litC W7.heap.size [rowC x]] (by kernel_rfl) (by kernel_rfl) ?hst ?h0 (Ord.stepsM_cons ?s0 (Ord.stepsM_cons ?s1 (Ord.stepsM_cons ?s2 (Ord.stepsM_cons ?s3 (Ord.stepsM_cons ?s4 (Ord.stepsM_cons ?s5 (Ord.stepsM_cons ?s6 (Ord.stepsM_cons ?s7 (Ord.stepsM_cons ?s8 (Ord.stepsM_cons ?s9 (Ord.stepsM_cons ?s10 (Ord.stepsM_nil)))))))))))) ?fin
    case s0=>
     intro g W L hL hSW hd
     try simp only[Nat.zero_add,Nat.reduceAdd]at hd ⊢
     with_reducible refine OpGives.pre_reads [] 43 ?_ ?_ ?_
     ·rfl
     ·kernel_rfl
     simp only[List.map_cons,List.map_nil]
     refine OpGives.val (w':=W) ?_ ⟨Below.refl _ _,rfl,hSW⟩
     go_simp
     try with_reducible rfl
    case s1=>
     intro g W L hL hSW hd
     try simp only[Nat.zero_add,Nat.reduceAdd]at hd ⊢
     with_reducible refine OpGives.pre_reads [] 43 ?_ ?_ ?_
     ·rfl
     ·kernel_rfl
     simp only[List.map_cons,List.map_nil]
     refine OpGives.val (w':=W) ?_ ⟨Below.refl _ _,rfl,hSW⟩
     go_simp
     try with_reducible rfl
    case s2=>
     intro g W L hL hSW hd
     try simp only[Nat.zero_add,Nat.reduceAdd]at hd ⊢
     have h1:g 1=_:=hd 1 (by decide) (by kernel_rfl)
     with_reducible refine OpGives.pre_reads [(29,1)] 43 ?_ ?_ ?_
     ·rfl
     ·kernel_rfl
     simp only[List.map_cons,List.map_nil]
     obtain⟨z0,z1,z2,z3,z4,z5⟩:=HCL.out W hSW;refine OpGives.val (v:=.int .i64 x.f0) (w':=W) ?_ ⟨Below.refl _ _,rfl,hSW⟩;go_simp
    case s3=>
     intro g W L hL hSW hd
     try simp only[Nat.zero_add,Nat.reduceAdd]at hd ⊢
     have h2:g 2=_:=hd 2 (by decide) (by kernel_rfl)
     with_reducible refine OpGives.pre_reads [(30,2)] 43 ?_ ?_ ?_
     ·rfl
     ·kernel_rfl
     simp only[List.map_cons,List.map_nil]
     rw[h2];refine OpGives.call (f:=184) (args:=#[.int .i64 x.f0]) (w':=W) (by go_simp) ((num_R x.f0 0 W).mono fun e W' ⟨he,hb⟩=>⟨_,he,hb,num_F _ _ _,hSW.trans (hb.mono hSW.size)⟩)
    case s4=>
     intro g W L hL hSW hd
     try simp only[Nat.zero_add,Nat.reduceAdd]at hd ⊢
     with_reducible refine OpGives.pre_reads [] 43 ?_ ?_ ?_
     ·rfl
     ·kernel_rfl
     simp only[List.map_cons,List.map_nil]
     refine OpGives.val (w':=W) ?_ ⟨Below.refl _ _,rfl,hSW⟩
     go_simp
     try with_reducible rfl
    case s5=>
     intro g W L hL hSW hd
     try simp only[Nat.zero_add,Nat.reduceAdd]at hd ⊢
     have h4:g 4=_:=hd 4 (by decide) (by kernel_rfl)
     with_reducible refine OpGives.pre_reads [(32,4)] 43 ?_ ?_ ?_
     ·rfl
     ·kernel_rfl
     simp only[List.map_cons,List.map_nil]
     obtain⟨z0,z1,z2,z3,z4,z5⟩:=HCL.out W hSW;refine OpGives.val (v:=.int .i64 x.f1) (w':=W) ?_ ⟨Below.refl _ _,rfl,hSW⟩;go_simp
    case s6=>
     intro g W L hL hSW hd
     try simp only[Nat.zero_add,Nat.reduceAdd]at hd ⊢
     have h5:g 5=_:=hd 5 (by decide) (by kernel_rfl)
     with_reducible refine OpGives.pre_reads [(33,5)] 43 ?_ ?_ ?_
     ·rfl
     ·kernel_rfl
     simp only[List.map_cons,List.map_nil]
     rw[h5];refine OpGives.call (f:=184) (args:=#[.int .i64 x.f1]) (w':=W) (by go_simp) ((num_R x.f1 0 W).mono fun e W' ⟨he,hb⟩=>⟨_,he,hb,num_F _ _ _,hSW.trans (hb.mono hSW.size)⟩)
    case s7=>
     intro g W L hL hSW hd
     try simp only[Nat.zero_add,Nat.reduceAdd]at hd ⊢
     with_reducible refine OpGives.pre_reads [] 43 ?_ ?_ ?_
     ·rfl
     ·kernel_rfl
     simp only[List.map_cons,List.map_nil]
     obtain⟨z0,z1,z2,z3,z4,z5⟩:=HCL.out W hSW;refine OpGives.val (v:=valV x.f2) (w':=W) ?_ ⟨Below.refl _ _,val_F _ _ _,hSW⟩;unfold valV;go_simp
    case s8=>
     intro g W L hL hSW hd
     try simp only[Nat.zero_add,Nat.reduceAdd]at hd ⊢
     have h3:=hd 3 (by decide) (by kernel_rfl)
     change (cellF W7.heap.size (numC x.f0)) (g 3) W at h3
     have h6:=hd 6 (by decide) (by kernel_rfl)
     change (cellF W7.heap.size (numC x.f1)) (g 6) W at h6
     have h7:=hd 7 (by decide) (by kernel_rfl)
     change (cellF W7.heap.size (valC x.f2)) (g 7) W at h7
     with_reducible refine OpGives.pre_reads [(31,3),(34,6),(35,7)] 43 ?_ ?_ ?_
     ·rfl
     ·kernel_rfl
     simp only[List.map_cons,List.map_nil]
     refine OpGives.val (v:=.slice (some ⟨W.heap.size,0,none⟩) 3 3) (w':=W.alloc (.cells ([g 3,g 6,g 7].flatMap fun v=>v.cells.toList).toArray 32)) (exec_buildSlice 30 3 _ rfl (lit_run3 h3 h6 h7 _ (by simp[rdl_cons]))) ⟨(Below.refl _ _).alloc (Nat.le_refl _) _,litC_of (repsM_3 h3 h6 h7) hSW.size,hSW.alloc hSW.size _⟩
    case s9=>
     intro g W L hL hSW hd
     try simp only[Nat.zero_add,Nat.reduceAdd]at hd ⊢
     have h8:=hd 8 (by decide) (by kernel_rfl)
     change (litC W7.heap.size [numC x.f0,numC x.f1,valC x.f2]) (g 8) W at h8
     with_reducible refine OpGives.pre_reads [(36,8)] 43 ?_ ?_ ?_
     ·rfl
     ·kernel_rfl
     simp only[List.map_cons,List.map_nil]
     refine OpGives.call (f:=94) (args:=#[g 8]) (w':=W) (by go_simp) ((List_lit h8 (by simp) hSW.size).mono fun e W' ⟨u,he,hf,hb⟩=>⟨u,he,hb,hf,hSW.trans (hb.mono hSW.size)⟩)
    case s10=>
     intro g W L hL hSW hd
     try simp only[Nat.zero_add,Nat.reduceAdd]at hd ⊢
     have h9:=hd 9 (by decide) (by kernel_rfl)
     change (cellF W7.heap.size (rowC x)) (g 9) W at h9
     with_reducible refine OpGives.pre_reads [(37,9)] 43 ?_ ?_ ?_
     ·rfl
     ·kernel_rfl
     simp only[List.map_cons,List.map_nil]
     refine OpGives.val (v:=.slice (some ⟨W.heap.size,0,none⟩) 1 1) (w':=W.alloc (.cells ([g 9].flatMap fun v=>v.cells.toList).toArray 32)) (exec_buildSlice 30 1 _ rfl (lit_run1 h9 _ (by simp[rdl_cons]))) ⟨(Below.refl _ _).alloc (Nat.le_refl _) _,litC_of (repsM_1 h9) hSW.size,hSW.alloc hSW.size _⟩
    case hst=>
     refine fun i j v w w' _ h hR=>st_of (R:=fun W W'=>Below W.heap.size W W') ?_ i v w w' h hR
     repeat' first
      | exact trivial
      | with_reducible refine StL.eq ?_
      | refine⟨fun v w w' h hR=>cellF_below h hR,?_⟩
      | refine⟨fun v w w' h hR=>litC_below h hR,?_⟩
    case h0=>exact(Below.refl _ _).drew
    case fin=>
     intro v' W L hL hSW hf
     have h10:=hf 10 (Nat.lt_of_lt_of_eq (by decide:10 < 11) rfl)
     have h0:v' 0=_:=hf 0 (Nat.lt_of_lt_of_eq (by decide:0 < 11) rfl)
     change litC W7.heap.size [rowC x] (v' 10) W at h10
     clear hf
     generalize hF:Ord.pre _ _ v' _=F
     rw[Ord.pre_lit [some 28,some 29,some 30,some 31,some 32,some 33,some 34,some 35,some 36,some 37,some 38]
      (by kernel_rfl)]at hF
     simp only[Ord.puts,Nat.zero_add,Nat.reduceAdd]at hF
     subst hF
     rw[h0]
     have hb7W:=HB7.out.trans (hSW.mono HB7.out.size)
     have hrW:=Kd.R_below HROW.out (⟨hb7W.os,hb7W.tape,hb7W.output,hb7W.size,hb7W.block⟩)
     obtain⟨v8,W8,hr8,hg8,hR8⟩:=append_lit (b0:=W1.heap.size) (lo:=W7.heap.size) hrW (fun k hk=>Nat.lt_of_lt_of_le (HOWN.out k hk) HB7.out.size) (Nat.le_trans HBE.out.size HB7.out.size) h10 HLEN.out 30
     have hB8:=grown_below hrW hg8 (HBE.out.trans (hb7W.mono HBE.out.size)) (Nat.le_trans HBE.out.size hb7W.size)
     have hR8':rC W8 W1.heap.size v8 ((l.take (i+1)).map rowC):=by
      rw[List.take_add_one,HX.out];simpa using hR8
     have HR8:=Lib.hid hR8'
     have HB8:=Lib.hid hB8
     clear hg8 hR8 hR8' hB8 hrW hb7W hSW h10
     refine any_one (i:=11) (by kernel_rfl) ?_
     refine wpOp_value (v:=v8) (w':=W8) rfl rfl ?_ ?_
     ·refine exec_append (.tmp 28) (.tmp 38) 30 rfl ?_
      have key:∀ a b ty,a=u3→b=v' 10→ty=30→(Builtin.append_ #[30,30] ty #[a,b]).run Tryz.prog W = .ok v8 W8:=by rintro _ _ _ rfl rfl rfl;exact hr8
      refine key _ _ _ ?_ ?_ rfl
      ·go_simp
      ·go_simp
     refine any_one (i:=12) (by kernel_rfl) ?_
     refine wpOp_value (v:=v8) (w':=W8) rfl rfl (by go_simp) ?_
     refine wpAny_done (by kernel_rfl) ?_ _
     try simp only[List.getElem_toArray,List.getElem_cons_succ,List.getElem_cons_zero]
     go_frame
     clear hr8
     go_wp2_with fail
     go_roundw
     case rel=>exact⟨i+1,by go_num,hil,HR8.out,HB8.out⟩
     case measure=>simp[intOf];omega
   ·have hk2':(x.f2.f0 == 2)=false:=by simpa using hk2
    have hval:valC x.f2=numC x.f2.f1:=by unfold valC;rw[if_neg hk2]
    have HVAL:=Lib.hid hval
    have HC7:=Lib.hid (show W5.heap[W4.heap.size]? = some (.cells #[.int .i64 (valC x.f2).f0,.int .i64 (valC x.f2).f1,.string (valC x.f2).f2,.slice none 0 0] 32 (0,0))by rw[hval];exact HC5.out)
    clear hk2 hval
    go_wp2_with fail
    rw[← HW5.out]
    clear d0 d1 d2 d3 d4
    have hcl:∀ W,Below W5.heap.size W5 W→W.cell? ⟨wr.heap.size,0,none⟩=some (.int .i64 x.f0)∧W.cell? ⟨wr.heap.size,1,none⟩=some (.int .i64 x.f1)∧W.cell? ⟨W4.heap.size,0,none⟩=some (.int .i64 (valC x.f2).f0)∧W.cell? ⟨W4.heap.size,1,none⟩=some (.int .i64 (valC x.f2).f1)∧W.cell? ⟨W4.heap.size,2,none⟩=some (.string (valC x.f2).f2)∧W.cell? ⟨W4.heap.size,3,none⟩=some (.slice none 0 0):=fun W hW=>by
     have hx:=(hW.block _ (Array.getElem?_eq_some_iff.1 HX5.out).1).trans HX5.out
     have hc:=(hW.block _ (Array.getElem?_eq_some_iff.1 HC7.out).1).trans HC7.out
     refine⟨?_,?_,?_,?_,?_,?_⟩<;>first | (rw[Lib.cell_of_heap hx];rfl) | (rw[Lib.cell_of_heap hc];rfl)
    have HCL:=Lib.hid hcl
    have hlo:W5.heap.size≤W5.heap.size:=Nat.le_refl _
    clear hcl
    refine' wp_region_factsM (S:=(fun _ W=>Below W5.heap.size W5 W)) (fun _ W W'=>Below W.heap.size W W') [eqM _,eqM _,eqM (.int .i64 x.f0),cellF W5.heap.size (numC x.f0),eqM _,eqM (.int .i64 x.f1),cellF W5.heap.size (numC x.f1),cellF W5.heap.size (valC x.f2),litC W5.heap.size [numC x.f0,numC x.f1,valC x.f2],cellF W5.heap.size (rowC x),litC W5.heap.size [rowC x]] (by kernel_rfl) (by kernel_rfl) ?hst ?h0 (Ord.stepsM_cons ?s0 (Ord.stepsM_cons ?s1 (Ord.stepsM_cons ?s2 (Ord.stepsM_cons ?s3 (Ord.stepsM_cons ?s4 (Ord.stepsM_cons ?s5 (Ord.stepsM_cons ?s6 (Ord.stepsM_cons ?s7 (Ord.stepsM_cons ?s8 (Ord.stepsM_cons ?s9 (Ord.stepsM_cons ?s10 (Ord.stepsM_nil)))))))))))) ?fin
    case s0=>
     intro g W L hL hSW hd
     try simp only[Nat.zero_add,Nat.reduceAdd]at hd ⊢
     with_reducible refine OpGives.pre_reads [] 43 ?_ ?_ ?_
     ·rfl
     ·kernel_rfl
     simp only[List.map_cons,List.map_nil]
     refine OpGives.val (w':=W) ?_ ⟨Below.refl _ _,rfl,hSW⟩
     go_simp
     try with_reducible rfl
    case s1=>
     intro g W L hL hSW hd
     try simp only[Nat.zero_add,Nat.reduceAdd]at hd ⊢
     with_reducible refine OpGives.pre_reads [] 43 ?_ ?_ ?_
     ·rfl
     ·kernel_rfl
     simp only[List.map_cons,List.map_nil]
     refine OpGives.val (w':=W) ?_ ⟨Below.refl _ _,rfl,hSW⟩
     go_simp
     try with_reducible rfl
    case s2=>
     intro g W L hL hSW hd
     try simp only[Nat.zero_add,Nat.reduceAdd]at hd ⊢
     have h1:g 1=_:=hd 1 (by decide) (by kernel_rfl)
     with_reducible refine OpGives.pre_reads [(29,1)] 43 ?_ ?_ ?_
     ·rfl
     ·kernel_rfl
     simp only[List.map_cons,List.map_nil]
     obtain⟨z0,z1,z2,z3,z4,z5⟩:=HCL.out W hSW;refine OpGives.val (v:=.int .i64 x.f0) (w':=W) ?_ ⟨Below.refl _ _,rfl,hSW⟩;go_simp
    case s3=>
     intro g W L hL hSW hd
     try simp only[Nat.zero_add,Nat.reduceAdd]at hd ⊢
     have h2:g 2=_:=hd 2 (by decide) (by kernel_rfl)
     with_reducible refine OpGives.pre_reads [(30,2)] 43 ?_ ?_ ?_
     ·rfl
     ·kernel_rfl
     simp only[List.map_cons,List.map_nil]
     rw[h2];refine OpGives.call (f:=184) (args:=#[.int .i64 x.f0]) (w':=W) (by go_simp) ((num_R x.f0 0 W).mono fun e W' ⟨he,hb⟩=>⟨_,he,hb,num_F _ _ _,hSW.trans (hb.mono hSW.size)⟩)
    case s4=>
     intro g W L hL hSW hd
     try simp only[Nat.zero_add,Nat.reduceAdd]at hd ⊢
     with_reducible refine OpGives.pre_reads [] 43 ?_ ?_ ?_
     ·rfl
     ·kernel_rfl
     simp only[List.map_cons,List.map_nil]
     refine OpGives.val (w':=W) ?_ ⟨Below.refl _ _,rfl,hSW⟩
     go_simp
     try with_reducible rfl
    case s5=>
     intro g W L hL hSW hd
     try simp only[Nat.zero_add,Nat.reduceAdd]at hd ⊢
     have h4:g 4=_:=hd 4 (by decide) (by kernel_rfl)
     with_reducible refine OpGives.pre_reads [(32,4)] 43 ?_ ?_ ?_
     ·rfl
     ·kernel_rfl
     simp only[List.map_cons,List.map_nil]
     obtain⟨z0,z1,z2,z3,z4,z5⟩:=HCL.out W hSW;refine OpGives.val (v:=.int .i64 x.f1) (w':=W) ?_ ⟨Below.refl _ _,rfl,hSW⟩;go_simp
    case s6=>
     intro g W L hL hSW hd
     try simp only[Nat.zero_add,Nat.reduceAdd]at hd ⊢
     have h5:g 5=_:=hd 5 (by decide) (by kernel_rfl)
     with_reducible refine OpGives.pre_reads [(33,5)] 43 ?_ ?_ ?_
     ·rfl
     ·kernel_rfl
     simp only[List.map_cons,List.map_nil]
     rw[h5];refine OpGives.call (f:=184) (args:=#[.int .i64 x.f1]) (w':=W) (by go_simp) ((num_R x.f1 0 W).mono fun e W' ⟨he,hb⟩=>⟨_,he,hb,num_F _ _ _,hSW.trans (hb.mono hSW.size)⟩)
    case s7=>
     intro g W L hL hSW hd
     try simp only[Nat.zero_add,Nat.reduceAdd]at hd ⊢
     with_reducible refine OpGives.pre_reads [] 43 ?_ ?_ ?_
     ·rfl
     ·kernel_rfl
     simp only[List.map_cons,List.map_nil]
     obtain⟨z0,z1,z2,z3,z4,z5⟩:=HCL.out W hSW;refine OpGives.val (v:=valV x.f2) (w':=W) ?_ ⟨Below.refl _ _,val_F _ _ _,hSW⟩;unfold valV;go_simp
    case s8=>
     intro g W L hL hSW hd
     try simp only[Nat.zero_add,Nat.reduceAdd]at hd ⊢
     have h3:=hd 3 (by decide) (by kernel_rfl)
     change (cellF W5.heap.size (numC x.f0)) (g 3) W at h3
     have h6:=hd 6 (by decide) (by kernel_rfl)
     change (cellF W5.heap.size (numC x.f1)) (g 6) W at h6
     have h7:=hd 7 (by decide) (by kernel_rfl)
     change (cellF W5.heap.size (valC x.f2)) (g 7) W at h7
     with_reducible refine OpGives.pre_reads [(31,3),(34,6),(35,7)] 43 ?_ ?_ ?_
     ·rfl
     ·kernel_rfl
     simp only[List.map_cons,List.map_nil]
     refine OpGives.val (v:=.slice (some ⟨W.heap.size,0,none⟩) 3 3) (w':=W.alloc (.cells ([g 3,g 6,g 7].flatMap fun v=>v.cells.toList).toArray 32)) (exec_buildSlice 30 3 _ rfl (lit_run3 h3 h6 h7 _ (by simp[rdl_cons]))) ⟨(Below.refl _ _).alloc (Nat.le_refl _) _,litC_of (repsM_3 h3 h6 h7) hSW.size,hSW.alloc hSW.size _⟩
    case s9=>
     intro g W L hL hSW hd
     try simp only[Nat.zero_add,Nat.reduceAdd]at hd ⊢
     have h8:=hd 8 (by decide) (by kernel_rfl)
     change (litC W5.heap.size [numC x.f0,numC x.f1,valC x.f2]) (g 8) W at h8
     with_reducible refine OpGives.pre_reads [(36,8)] 43 ?_ ?_ ?_
     ·rfl
     ·kernel_rfl
     simp only[List.map_cons,List.map_nil]
     refine OpGives.call (f:=94) (args:=#[g 8]) (w':=W) (by go_simp) ((List_lit h8 (by simp) hSW.size).mono fun e W' ⟨u,he,hf,hb⟩=>⟨u,he,hb,hf,hSW.trans (hb.mono hSW.size)⟩)
    case s10=>
     intro g W L hL hSW hd
     try simp only[Nat.zero_add,Nat.reduceAdd]at hd ⊢
     have h9:=hd 9 (by decide) (by kernel_rfl)
     change (cellF W5.heap.size (rowC x)) (g 9) W at h9
     with_reducible refine OpGives.pre_reads [(37,9)] 43 ?_ ?_ ?_
     ·rfl
     ·kernel_rfl
     simp only[List.map_cons,List.map_nil]
     refine OpGives.val (v:=.slice (some ⟨W.heap.size,0,none⟩) 1 1) (w':=W.alloc (.cells ([g 9].flatMap fun v=>v.cells.toList).toArray 32)) (exec_buildSlice 30 1 _ rfl (lit_run1 h9 _ (by simp[rdl_cons]))) ⟨(Below.refl _ _).alloc (Nat.le_refl _) _,litC_of (repsM_1 h9) hSW.size,hSW.alloc hSW.size _⟩
    case hst=>
     refine fun i j v w w' _ h hR=>st_of (R:=fun W W'=>Below W.heap.size W W') ?_ i v w w' h hR
     repeat' first
      | exact trivial
      | with_reducible refine StL.eq ?_
      | refine⟨fun v w w' h hR=>cellF_below h hR,?_⟩
      | refine⟨fun v w w' h hR=>litC_below h hR,?_⟩
    case h0=>exact(Below.refl _ _).drew
    case fin=>
     intro v' W L hL hSW hf
     have h10:=hf 10 (Nat.lt_of_lt_of_eq (by decide:10 < 11) rfl)
     have h0:v' 0=_:=hf 0 (Nat.lt_of_lt_of_eq (by decide:0 < 11) rfl)
     change litC W5.heap.size [rowC x] (v' 10) W at h10
     clear hf
     generalize hF:Ord.pre _ _ v' _=F
     rw[Ord.pre_lit [some 28,some 29,some 30,some 31,some 32,some 33,some 34,some 35,some 36,some 37,some 38]
      (by kernel_rfl)]at hF
     simp only[Ord.puts,Nat.zero_add,Nat.reduceAdd]at hF
     subst hF
     rw[h0]
     have hb7W:=HB5.out.trans (hSW.mono HB5.out.size)
     have hrW:=Kd.R_below HROW.out (⟨hb7W.os,hb7W.tape,hb7W.output,hb7W.size,hb7W.block⟩)
     obtain⟨v8,W8,hr8,hg8,hR8⟩:=append_lit (b0:=W1.heap.size) (lo:=W5.heap.size) hrW (fun k hk=>Nat.lt_of_lt_of_le (HOWN.out k hk) HB5.out.size) (Nat.le_trans HBE.out.size HB5.out.size) h10 HLEN.out 30
     have hB8:=grown_below hrW hg8 (HBE.out.trans (hb7W.mono HBE.out.size)) (Nat.le_trans HBE.out.size hb7W.size)
     have hR8':rC W8 W1.heap.size v8 ((l.take (i+1)).map rowC):=by
      rw[List.take_add_one,HX.out];simpa using hR8
     have HR8:=Lib.hid hR8'
     have HB8:=Lib.hid hB8
     clear hg8 hR8 hR8' hB8 hrW hb7W hSW h10
     refine any_one (i:=11) (by kernel_rfl) ?_
     refine wpOp_value (v:=v8) (w':=W8) rfl rfl ?_ ?_
     ·refine exec_append (.tmp 28) (.tmp 38) 30 rfl ?_
      have key:∀ a b ty,a=u3→b=v' 10→ty=30→(Builtin.append_ #[30,30] ty #[a,b]).run Tryz.prog W = .ok v8 W8:=by rintro _ _ _ rfl rfl rfl;exact hr8
      refine key _ _ _ ?_ ?_ rfl
      ·go_simp
      ·go_simp
     refine any_one (i:=12) (by kernel_rfl) ?_
     refine wpOp_value (v:=v8) (w':=W8) rfl rfl (by go_simp) ?_
     refine wpAny_done (by kernel_rfl) ?_ _
     try simp only[List.getElem_toArray,List.getElem_cons_succ,List.getElem_cons_zero]
     go_frame
     clear hr8
     go_wp2_with fail
     go_roundw
     case rel=>exact⟨i+1,by go_num,hil,HR8.out,HB8.out⟩
     case measure=>simp[intOf];omega
  ·have hie:i=l.length:=by omega
   have hrow:=HROW.out
   rw[hie,List.take_length]at hrow
   have hL:=List_own hrow (by rw[List.length_map];exact hl) HBE.out.size
   have HL:=Lib.hid hL
   clear hrow hie hL
   go_wp2_with fail
   refine HL.out.mono ?_
   rintro e W2' ⟨u,rfl,⟨v3,rfl,hR3⟩,hb3⟩
   obtain⟨A3,c3,rfl⟩:=R_slice hR3
   have hb1':Below W1.heap.size W1 W2':=HBE.out.trans (hb3.mono HBE.out.size)
   have hgb:=(hb1'.block w.heap.size (by have:=HS1.out;omega)).trans HG1.out
   have hbw:Below w.heap.size w W2':=HN1.out.trans (hb1'.mono HN1.out.size)
   have z0:W2'.cell? ⟨w.heap.size,0,none⟩=some (.int .i64 0):=by rw[Lib.cell_of_heap hgb];rfl
   have z1:W2'.cell? ⟨w.heap.size,1,none⟩=some (.int .i64 0):=by rw[Lib.cell_of_heap hgb];rfl
   have z2:W2'.cell? ⟨w.heap.size,2,none⟩=some (.string (⟨#[]⟩:ByteArray)):=by rw[Lib.cell_of_heap hgb];rfl
   have z3:W2'.cell? ⟨w.heap.size,3,none⟩=some (.slice none 0 0):=by rw[Lib.cell_of_heap hgb];rfl
   have f0:=Lib.frozen_of_heap hgb 0
   have f1:=Lib.frozen_of_heap hgb 1
   have f2:=Lib.frozen_of_heap hgb 2
   have f3:=Lib.frozen_of_heap hgb 3
   have HGB:=Lib.hid hgb
   have HBW:=Lib.hid hbw
   have HR3:=Lib.hid hR3
   clear hb1' hgb hbw hR3 hb3
   go_wp2_with fail
   refine bodyPost_ret (results_cell_row rfl _ _ w.heap.size 32 #[.int .i64 3,.int .i64 0,.string (⟨#[]⟩:ByteArray),.slice A3 (listC (l.map rowC)).f3.length c3] (0,0) _ rfl (four_put HGB.out _ _ _ _) Tryz.underlying32 rfl (by kernel_rfl)) rfl ?_
   exact⟨_,rfl,⟨_,rfl,rC_put HR3.out (by have:=HS1.out;omega) (by have:=HS1.out;omega) _ _ _ _⟩,put4_below HBW.out _ _ _ _⟩
end Go.Proofs.YtlmabbigfdbmbaaGreatDoor.PShelfNil
