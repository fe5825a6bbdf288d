/- Texts of one proof, joined: QZ, QOU, QOV, QWD, Gk, QWJ, QWI, QWC, QWF, QWG, QWK, QSD, QWM, QWE, QWH, Gm, Gr, QWN, Gs, QWL. -/
import Derived.Test.YtlmabbigfdbmbaaGreatDoorYh
import Derived.Test.YtlmabbigfdbmbaaGreatDoorYf
import Derived.Test.YtlmabbigfdbmbaaGreatDoorYg
import Derived.Test.YtlmabbigfdbmbaaGreatDoorYe
import Derived.StillTailTactics
set_option linter.unusedSimpArgs false
set_option linter.unusedVariables false
namespace Go.Proofs.YtlmabbigfdbmbaaGreatDoor.PShelfNil
open Go.RowKit Go.Proofs.YtlmabbigfdbmbaaGreatDoorW.PrintWords Go.Proofs.YtlmabbigfdbmbaaGreatDoorW.PrintLast Go.Proofs.YtlmabbigfdbmbaaGreatDoorW.PrintMore
theorem ofNat_inj{a b:Nat}(ha:a < 256)(hb:b < 256)(h:UInt8.ofNat a=UInt8.ofNat b):a=b:=by
 have:=congrArg UInt8.toNat h
 simp only[UInt8.toNat_ofNat']at this
 omega
theorem cut_parts{s:ByteArray}{p n m:Nat}{A B:List UInt8}(h:cut s p (n+m)=A++B)(hA:A.length=n)(hl:p+n≤s.data.toList.length):cut s p n=A∧cut s (p+n) m=B:=by
 rw[cut_append]at h
 exact List.append_inj h (by rw[cut_len hl,hA])
theorem num_bes{s:ByteArray}{p:Nat} : ∀ (m k:Nat),k < m→p+(bes k).length≤s.data.toList.length→cut s p (bes k).length=bes k→numAt s p (bes k).length=k∧(0 < k→byteAt s p≠0)
 | 0,k,h,_,_=>by omega
 | m+1,k,h,hl,hc=>by
  rcases Nat.eq_zero_or_pos k with rfl | h0
  ·rw[bes_zero];exact⟨rfl,fun h=>absurd h (by decide)⟩
  ·rw[bes_pos h0]at hl hc ⊢
   rw[List.length_append,List.length_singleton]at hl hc ⊢
   rw[cut_snoc (by omega)]at hc
   obtain⟨h1,h2⟩:=List.append_inj hc (by rw[cut_len (by omega)])
   injection h2 with h2 _
   have hb:=ofNat_inj (byteAt_lt s _) (by omega) h2
   obtain⟨i1,i2⟩:=num_bes m (k / 256) (by omega) (by omega) h1
   refine⟨by rw[numAt,i1,hb];omega,fun _=>?_⟩
   rcases Nat.eq_zero_or_pos (k / 256)with hz | hz
   ·rw[hz,bes_zero]at hb
    simp only[List.length_nil,Nat.add_zero]at hb
    omega
   ·exact i2 hz
theorem head_at{s:ByteArray}{p j k:Nat}(hj:j < 15)(hk:k < 18446744073709551616)(hl:p+(headB j k).length≤s.data.toList.length)(hc:cut s p (headB j k).length=headB j k) :
  byteAt s p / 16=j∧byteAt s p % 16=(bes k).length∧numAt s (p+1) (bes k).length=k∧(0 < (bes k).length→byteAt s (p+1)≠0):=by
 have h8:=bes_len8 hk
 unfold headB at hl hc
 rw[List.length_cons]at hl hc
 rw[cut_cons (by omega)]at hc
 injection hc with h1 h2
 have hb:=ofNat_inj (byteAt_lt s _) (by omega) h1
 obtain⟨i1,i2⟩:=num_bes (k+1) k (by omega) (by omega) h2
 refine⟨by omega,by omega,i1,fun h=>i2 ?_⟩
 rcases Nat.eq_zero_or_pos k with rfl | h0
 ·rw[bes_zero]at h;simp at h
 ·exact h0
theorem headB_length(j k:Nat):(headB j k).length=1+(bes k).length:=by unfold headB;rw[List.length_cons];omega
theorem empty_of{s:ByteArray}(h:s.size=0):s=⟨#[]⟩:=by
 apply ByteArray.ext
 exact Array.eq_empty_of_size_eq_zero h
theorem bes_width{k w:Nat}(h:k < 256 ^ w):(bes k).length≤w:=bes_len w k h
theorem cellW_head{s:ByteArray}{g:Nat→DR S32}{p j k:Nat}(hj1:1≤j)(hj:j≤4)(hk:k≤mostOf j)(hl:p+1+(bes k).length≤s.size)(hc:cut s p (headB j k).length=headB j k) :
  cellW s true g p=if j=1 then .ok ⟨1,(k:Int),⟨#[]⟩,[]⟩ (p+1+(bes k).length)else if j=2 then .ok ⟨1,-1 - (k:Int),⟨#[]⟩,[]⟩ (p+1+(bes k).length)
   else if j=3 then (if s.size < p+1+(bes k).length+k then .bad s.size 3 else .ok ⟨2,0,s.extract (p+1+(bes k).length) (p+1+(bes k).length+k),[]⟩ (p+1+(bes k).length+k))
   else match manyW g k (p+1+(bes k).length) []with
    | .ok l q'=> .ok ⟨3,0,⟨#[]⟩,l⟩ q'
    | .bad p' e=> .bad p' e:=by
 have hmw:k < 18446744073709551616∧(bes k).length≤widthOf j:=by
  by_cases h12:j=1∨j=2
  ·have hm:mostOf j=9223372036854775807:=by unfold mostOf;rw[if_pos h12]
   have hw:widthOf j=8:=by unfold widthOf;rw[if_pos h12]
   rw[hm]at hk;rw[hw]
   exact⟨by omega,bes_len8 (by omega)⟩
  ·have hw:widthOf j=2:=by unfold widthOf;rw[if_neg h12]
   have hm:k≤65535:=by unfold mostOf at hk;rw[if_neg h12]at hk;split at hk<;>omega
   rw[hw]
   exact⟨by omega,bes_width (by simp;omega)⟩
 have hlen:=headB_length j k
 obtain⟨h1,h2,h3,h4⟩:=head_at (s:=s) (p:=p) (j:=j) (k:=k) (by omega) hmw.1 (by rw[hlen,← Lib.size_eq];omega) hc
 rw[cellW_eq,if_neg (by omega)]
 rw[h1,h2,h3,if_neg (by omega),if_neg (by omega),if_neg (by decide),if_neg (by omega),if_neg (by rintro⟨a,b⟩;exact h4 a b),if_neg (by omega)]
 rfl
def Placed(s:ByteArray)(d p:Nat)(x:S32):Prop:=cut s p (encS x).length=encS x→p+(encS x).length≤s.size→cellD s d p = .ok x (p+(encS x).length)
theorem many_placed{s:ByteArray}{f:Nat→DR S32} : ∀ (l:List S32),(∀ y∈l,∀ p,cut s p (encS y).length=encS y→p+(encS y).length≤s.size→f p = .ok y (p+(encS y).length))→∀ (q:Nat) (acc:List S32),
  cut s q (encL l).length=encL l→q+(encL l).length≤s.size→manyW f l.length q acc = .ok (acc++l) (q+(encL l).length)
 | [],_,q,acc,_,_=>by rw[List.length_nil,manyW,encL,List.append_nil,List.length_nil,Nat.add_zero]
 | y :: ys,hf,q,acc,hc,hl=>by
  have hsz:=Lib.size_eq s
  rw[encL]at hc hl ⊢
  rw[List.length_append]at hc hl ⊢
  obtain⟨c1,c2⟩:=cut_parts hc rfl (by omega)
  rw[List.length_cons,manyW,hf y List.mem_cons_self q c1 (by omega)]
  simp only
  rw[many_placed ys (fun z hz=>hf z (List.mem_cons_of_mem _ hz)) _ _ c2 (by omega),List.append_assoc,Nat.add_assoc]
  rfl
theorem extract_cut{s:ByteArray}{a k:Nat}{t:ByteArray}(hk:t.size=k)(h:cut s a k=t.data.toList):s.extract a (a+k)=t:=by
 rw[Lib.extract_eq]
 unfold cut at h
 rw[show a+k - a=k by omega,h]
theorem ok_cases{d:Nat}{x:S32}(h:okS d x=true):∃ d',d=d'+1∧((∃ n,x=⟨1,n,⟨#[]⟩,[]⟩)∨(∃ t,x=⟨2,0,t,[]⟩∧t.size≤65535)∨∃ l,x=⟨3,0,⟨#[]⟩,l⟩∧l.length≤4095∧∀ y∈l,okS d' y=true):=by
 cases d with
 | zero=>rw[okS]at h;cases h
 | succ d=>
  obtain⟨k,n,s,l⟩:=x
  rw[okS]at h
  refine⟨d,rfl,?_⟩
  split at h
  ·rename_i hk
   simp only[Bool.and_eq_true,decide_eq_true_eq]at h
   exact .inl ⟨n,by rw[hk,empty_of h.1,List.eq_nil_of_length_eq_zero h.2]⟩
  split at h
  ·rename_i hk
   simp only[Bool.and_eq_true,decide_eq_true_eq]at h
   exact .inr (.inl ⟨s,by rw[hk,h.1,List.eq_nil_of_length_eq_zero h.2.1],h.2.2⟩)
  split at h
  ·rename_i hk
   simp only[Bool.and_eq_true,decide_eq_true_eq,List.all_eq_true]at h
   exact .inr (.inr ⟨l,by rw[hk,h.1,empty_of h.2.1],h.2.2.1,h.2.2.2⟩)
  ·cases h
theorem encS_num(n:Int):encS ⟨1,n,⟨#[]⟩,[]⟩=if n < 0 then headB 2 (-(n+1)).toNat else headB 1 n.toNat:=by rw[encS,if_pos rfl]
theorem encS_text(t:ByteArray):encS ⟨2,0,t,[]⟩=headB 3 t.size++t.data.toList:=by rw[encS,if_neg (by decide),if_pos rfl]
theorem encS_list(l:List S32):encS ⟨3,0,⟨#[]⟩,l⟩=headB 4 l.length++encL l:=by rw[encS,if_neg (by decide),if_neg (by decide)]
theorem placed_any(s:ByteArray):∀ (d:Nat) (p:Nat) (x:S32),okS d x=true→wfS x→Placed s d p x:=by
 intro d
 induction d with
 | zero=>intro p x h;rw[okS]at h;cases h
 | succ d ih=>
  intro p x h hw hc hl
  have hsz:=Lib.size_eq s
  obtain⟨d',hd,hx⟩:=ok_cases h
  obtain rfl:d=d':=by omega
  rw[cellD]
  rcases hx with ⟨n,rfl⟩ | ⟨t,rfl,ht⟩ | ⟨l,rfl,hll,hok⟩
  ·rw[wfS]at hw
   rw[encS_num]at hc hl ⊢
   by_cases hn:n < 0
   ·rw[if_pos hn]at hc hl ⊢
    have hlen:=headB_length 2 (-(n+1)).toNat
    rw[cellW_head (j:=2) (by decide) (by decide) (by rw[most_2];omega) (by omega) hc,if_neg (by decide),if_pos rfl,hlen]
    congr 1
    ·congr 1;omega
    ·omega
   ·rw[if_neg hn]at hc hl ⊢
    have hlen:=headB_length 1 n.toNat
    rw[cellW_head (j:=1) (by decide) (by decide) (by rw[most_1];omega) (by omega) hc,if_pos rfl,hlen]
    congr 1
    ·congr 1;omega
    ·omega
  ·rw[encS_text]at hc hl ⊢
   have hlen:=headB_length 3 t.size
   have htl:=Lib.size_eq t
   rw[List.length_append]at hc hl ⊢
   obtain⟨c1,c2⟩:=cut_parts hc rfl (by omega)
   rw[cellW_head (j:=3) (by decide) (by decide) (by rw[most_3];omega) (by omega) c1,if_neg (by decide),if_neg (by decide),if_pos rfl,if_neg (by omega)]
   rw[← htl,hlen,show p+(1+(bes t.size).length)=p+1+(bes t.size).length by omega]at c2
   rw[extract_cut rfl c2]
   congr 1
   omega
  ·rw[wfS]at hw
   rw[encS_list]at hc hl ⊢
   have hlen:=headB_length 4 l.length
   rw[List.length_append]at hc hl ⊢
   obtain⟨c1,c2⟩:=cut_parts hc rfl (by omega)
   rw[cellW_head (j:=4) (by decide) (by decide) (by rw[most_4];omega) (by omega) c1,if_neg (by decide),if_neg (by decide),if_neg (by decide)]
   rw[hlen,show p+(1+(bes l.length).length)=p+1+(bes l.length).length by omega]at c2
   rw[many_placed l (fun y hy q=>ih q y (hok y hy) (wfL_mem hw.2.2.2.2 hy)) _ _ c2 (by omega)]
   simp only[List.nil_append]
   congr 1
   omega
end Go.Proofs.YtlmabbigfdbmbaaGreatDoor.PShelfNil
namespace Go.Proofs.YtlmabbigfdbmbaaGreatDoor.PShelfNil
open Go.RowKit Go.Proofs.YtlmabbigfdbmbaaGreatDoor.Ord Go.Proofs.YtlmabbigfdbmbaaGreatDoor.Obj Go.Proofs.YtlmabbigfdbmbaaGreatDoorW.PrintWords Go.Proofs.YtlmabbigfdbmbaaGreatDoorW.PrintLast Go.Proofs.YtlmabbigfdbmbaaGreatDoorW.PrintMore
attribute [local irreducible] OpGives
def takeC(x:S32):Ob × Int:=match objD x with
 | some o=>if okOb o then (o,0)else (zOb,4)
 | none=>(zOb,4)
def takeO(s:ByteArray):Ob × Int:=if (takeR s).2≠0 then (zOb,((takeR s).2:Int))else takeC (takeR s).1
def TakeOPost(r:Ob × Int)(w:World)(e:Ending)(w':World):Prop:=
 ∃ Ar cr Ak ck Ap cp,e = .returned (.tuple #[.agg (obV r.1 Ar cr Ak ck Ap cp),.int .i64 r.2])∧ObR w' w.heap.size r.1 Ar cr Ak ck Ap cp∧Below w.heap.size w w'
theorem ob_results4:(Tryz.f56).results=#[.cell 2 27,.tmp 3]:=Tryz.results56
theorem parts_enc:∀ (d:Nat) (x:S32),okS d x=true→parts x≤(encS x).length
 | 0,x,h=>by rw[okS]at h;cases h
 | d+1,x,h=>by
  have hh:∀ a b,1≤(headB a b).length:=fun a b=>by rw[headB_length];omega
  obtain⟨d',e,hx⟩:=ok_cases h
  have hd:d'=d:=by omega
  subst hd
  rcases hx with ⟨n,rfl⟩ | ⟨t,rfl,ht⟩ | ⟨l,rfl,hl,hk⟩
  ·rw[parts,partsL,encS_num]
   have h1:=hh 2 (-(n+1)).toNat
   have h2:=hh 1 n.toNat
   have hz:(ByteArray.mk #[]).size=0:=rfl
   rw[hz]
   split<;>omega
  ·rw[parts,partsL,encS_text,List.length_append]
   have h1:=hh 3 t.size
   have h2:t.data.toList.length=t.size:=by rw[Lib.size_eq]
   omega
  ·rw[parts,encS_list,List.length_append]
   have h1:=hh 4 l.length
   have hz:(ByteArray.mk #[]).size=0:=rfl
   rw[hz]
   have hL:∀ l':List S32,(∀ y∈l',y∈l)→partsL l'≤(encL l').length:=by
    intro l'
    induction l' with
    | nil=>intro _;rw[partsL];omega
    | cons y ys ih=>
     intro hy
     rw[partsL,encL,List.length_append]
     have:=ih (fun z hz=>hy z (List.mem_cons_of_mem _ hz))
     have:=parts_enc d' y (hk y (hy y List.mem_cons_self))
     omega
   have:=hL l (fun _ h=>h)
   omega
set_option maxHeartbeats 16000000 in
set_option maxRecDepth 100000 in
theorem otake_calls(s:ByteArray)(w:World)(hs:s.size≤1000000)(hp:(takeR s).2=0→parts (takeR s).1≤1000000)(hT:Lib.Utf8Tabs 1 2 w) :
  Calls Tryz.prog 56 #[.string s] w (TakeOPost (takeO s) w):=by
 obtain⟨W1,hW1⟩:∃ W1,W1=w.alloc (.cells obZ 27):=⟨_,rfl⟩
 have hn1:Below w.heap.size w W1:=by rw[hW1];exact(Below.refl _ _).alloc (Nat.le_refl _) _
 have hg1:W1.heap[w.heap.size]? = some (.cells obZ 27 (0,0)):=by rw[hW1];exact alloc_lastV _ _
 have hs1:W1.heap.size=w.heap.size+1:=by rw[hW1];simp
 have HTK:=Lib.hid (Take_calls s W1 (by omega))
 obtain⟨RP,hRP⟩:∃ RP:Ending→World→Prop,RP=TakeOPost (takeO s) w:=⟨_,rfl⟩
 rw[← hRP]
 unfold takeO at hRP
 obtain⟨⟨x,f⟩,hx⟩:∃ y,y=takeR s:=⟨_,rfl⟩
 rw[← hx]at hRP hp HTK
 simp only at hRP hp
 have HRP:=Lib.hid hRP
 have HN1:=Lib.hid hn1
 have HG1:=Lib.hid hg1
 have HS1:=Lib.hid hs1
 have HP:=Lib.hid hp
 have HT:=Lib.hid (Utf8Tabs_below hT hn1)
 unfold obZ at hW1
 have HW1:=Lib.hid hW1
 clear hn1 hg1 hs1 hW1 hRP hx hp hT
 have hzero:∀ W,Below w.heap.size w W→W.heap[w.heap.size]? = some (.cells obZ 27 (0,0))→∀ (er:Int) (tmps:Array Value),tmps.getD 2 undef = .pointer (some ⟨w.heap.size,0,none⟩)→tmps.getD 3 undef = .int .i64 er→(RP=TakeOPost (zOb,er) w)→
   bodyPost Tryz.prog Tryz.f56 RP Exit.ret { tmps:=tmps,defers:=[] } W:=fun W hW hg er tmps t2 t3 e=>by
  refine bodyPost_ret (results_ob ob_results4 _ _ w.heap.size _ _ _ _ _ _ _ _ _ t2 t3 hg) rfl ?_
  rw[e]
  exact⟨none,0,none,0,none,0,rfl,ObR_zero _ _,hW⟩
 have HZERO:=Lib.hid hzero
 clear hzero
 go_enter Tryz.func56,Tryz.ntmps56
 go_wp2_with fail
 rw[← HW1.out]
 refine HTK.out.mono ?_
 rintro e W2 ⟨v3,rfl,hR,hb2⟩
 simp only at hR ⊢
 obtain⟨A3,c3,rfl⟩:=R_slice hR
 obtain⟨W3,hW3⟩:∃ W3,W3=W2.alloc (.cells #[.int .i64 x.f0,.int .i64 x.f1,.string x.f2,.slice A3 x.f3.length c3] 32):=⟨_,rfl⟩
 have hn3:Below W2.heap.size W2 W3:=by rw[hW3];exact(Below.refl _ _).alloc (Nat.le_refl _) _
 have hg3:W3.heap[W2.heap.size]? = some (.cells #[.int .i64 x.f0,.int .i64 x.f1,.string x.f2,.slice A3 x.f3.length c3] 32 (0,0)):=by rw[hW3];exact alloc_lastV _ _
 have hb13:Below W1.heap.size W1 W3:=hb2.trans (hn3.mono hb2.size)
 have hz3:=(hb13.block _ (Array.getElem?_eq_some_iff.1 HG1.out).1).trans HG1.out
 unfold obZ at hz3
 have hbw:Below w.heap.size w W3:=HN1.out.trans (hb13.mono HN1.out.size)
 obtain⟨_,hlc,hC⟩:=Kd.R_reads' (Kd.R_below hR hn3)
 obtain⟨⟨z0,z1,z2,z3⟩,z4,z5,z6,z7⟩:=box8 hz3
 obtain⟨⟨f0,f1,f2,f3⟩,f4,f5,f6,f7⟩:=frozen8 hz3
 obtain⟨⟨y0,y1,y2,y3⟩,_⟩:=box4 hg3
 have HZ3:=Lib.hid hz3
 have HBW:=Lib.hid hbw
 have HCX:=Lib.hid (And.intro hlc hC)
 have HT3:=Lib.hid (Utf8Tabs_below HT.out hb13)
 have HS3:=Lib.hid (show W1.heap.size≤W3.heap.size from hb13.size)
 rw[hW3]at z0 z1 z2 z3 z4 z5 z6 z7 f0 f1 f2 f3 f4 f5 f6 f7 y0 y1 y2 y3
 have HW3:=Lib.hid hW3
 clear hR hb2 hn3 hg3 hb13 hz3 hbw hlc hC hW3
 by_cases he:f≠0
 ·have he':((f:Int) != 0)=true:=by simp;omega
  go_wp2_with fail
  rw[← HW3.out]
  refine HZERO.out (put8 W3 w.heap.size (.int .i64 0) (.string (⟨#[]⟩:ByteArray)) (.slice none 0 0) (.slice none 0 0) (.slice none 0 0) (.int .i64 0) (.string (⟨#[]⟩:ByteArray)) (.string (⟨#[]⟩:ByteArray))) (put8_below HBW.out (Nat.le_refl _) _ _ _ _ _ _ _ _) (put8_same HZ3.out _ _ _ _ _ _ _ _) (f:Int) _ rfl rfl ?_
  rw[HRP.out,if_pos he]
 ·have he':((f:Int) != 0)=false:=by simp;omega
  have hf0:f=0:=by omega
  have HPL:=Lib.hid (plain_calls (SizeOf.sizeOf x+1) x (Nat.lt_succ_self _) A3 c3 W3 HCX.out.2 HCX.out.1 (HP.out hf0))
  clear z0 z1 z2 z3 z4 z5 z6 z7 f0 f1 f2 f3 f4 f5 f6 f7
  go_wp2_with fail
  rw[← HW3.out]
  clear y0 y1 y2 y3
  refine HPL.out.mono ?_
  rintro e W4 ⟨u,rfl,hu,hb4⟩
  have hb4w:=HBW.out.trans (hb4.mono HBW.out.size)
  have HOF:=Lib.hid (objectOf_calls x u W4 (kA.K_of_M hu) (HP.out hf0) (Utf8Tabs_below HT3.out hb4))
  have HB4:=Lib.hid hb4w
  have HZ4:=Lib.hid ((hb4.block _ (Array.getElem?_eq_some_iff.1 HZ3.out).1).trans HZ3.out)
  have HT4:=Lib.hid (Utf8Tabs_below HT3.out hb4)
  have HS4:=Lib.hid (show w.heap.size+1≤W4.heap.size by have:=HS3.out;have:=hb4.size;have:=HS1.out;omega)
  clear hb4 hb4w hu
  go_wp2_with fail
  refine HOF.out.mono ?_
  rintro e W5 ⟨Ar,cr,Ak,ck,Ap,cp,rfl,hO,hb5⟩
  have hob5:ObAt W5 ((objD x).getD zOb) Ar cr Ak ck Ap cp:=hO.at_
  obtain⟨W6,hW6⟩:∃ W6,W6=W5.alloc (.cells (obV ((objD x).getD zOb) Ar cr Ak ck Ap cp) 27):=⟨_,rfl⟩
  have hn6:Below W5.heap.size W5 W6:=by rw[hW6];exact(Below.refl _ _).alloc (Nat.le_refl _) _
  have hg6:W6.heap[W5.heap.size]? = some (.cells (obV ((objD x).getD zOb) Ar cr Ak ck Ap cp) 27 (0,0)):=by rw[hW6];exact alloc_lastV _ _
  have hb46:Below W4.heap.size W4 W6:=hb5.trans (hn6.mono hb5.size)
  have HZ6:=Lib.hid ((hb46.block _ (Array.getElem?_eq_some_iff.1 HZ4.out).1).trans HZ4.out)
  have HB6:=Lib.hid (HB4.out.trans (hb46.mono HB4.out.size))
  have HCK:=Lib.hid (ocheck_calls _ Ar cr Ak ck Ap cp W6 (hob5.below hn6) (Utf8Tabs_below HT4.out hb46))
  have HO6:=Lib.hid (hO.move (base':=w.heap.size+1) (W:=W6) (fun k hk hl=>hn6.block k hl) HS4.out)
  have HG6:=Lib.hid hg6
  have hrp:RP=TakeOPost (takeC x) w:=by rw[HRP.out,if_neg he]
  unfold takeC at hrp
  have HRP2:=Lib.hid hrp
  unfold obV at hW6 HCK HG6
  obtain⟨⟨y0,y1,y2,y3⟩,y4,y5,y6,y7⟩:=box8 HG6.out
  obtain⟨⟨z0,z1,z2,z3⟩,z4,z5,z6,z7⟩:=box8 HZ6.out
  obtain⟨⟨f0,f1,f2,f3⟩,f4,f5,f6,f7⟩:=frozen8 HZ6.out
  rw[hW6]at y0 y1 y2 y3 y4 y5 y6 y7 z0 z1 z2 z3 z4 z5 z6 z7 f0 f1 f2 f3 f4 f5 f6 f7
  have HW6:=Lib.hid hW6
  clear hob5 hn6 hg6 hb46 hO hb5 hrp hW6
  unfold obV
  cases hod:objD x with
  | none=>
   rw[hod]at HRP2
   have HRP3:=Lib.hid (show RP=TakeOPost (zOb,4) w from HRP2.out)
   simp only[hod,Option.getD_none]at HW6 HG6 HCK HO6 y0 y1 y2 y3 y4 y5 y6 y7 z0 z1 z2 z3 z4 z5 z6 z7 f0 f1 f2 f3 f4 f5 f6 f7 ⊢
   clear hod
   go_wp2_with fail
   rw[← HW6.out]
   refine HZERO.out (put8 W6 w.heap.size (.int .i64 0) (.string (⟨#[]⟩:ByteArray)) (.slice none 0 0) (.slice none 0 0) (.slice none 0 0) (.int .i64 0) (.string (⟨#[]⟩:ByteArray)) (.string (⟨#[]⟩:ByteArray))) (put8_below HB6.out (Nat.le_refl _) _ _ _ _ _ _ _ _) (put8_same HZ6.out _ _ _ _ _ _ _ _) 4 _ rfl rfl HRP3.out
  | some o=>
   rw[hod]at HRP2
   simp only[hod,Option.getD_some,Option.isSome_some]at HW6 HG6 HCK HO6 y0 y1 y2 y3 y4 y5 y6 y7 z0 z1 z2 z3 z4 z5 z6 z7 f0 f1 f2 f3 f4 f5 f6 f7 ⊢
   clear hod
   generalize hrb:okOb o=rb at HCK HRP2
   have HRB:=Lib.hid hrb
   obtain⟨o0,o1,o2,o3,o4,o5,o6,o7⟩:=o
   simp only at HW6 HG6 HCK HO6 y0 y1 y2 y3 y4 y5 y6 y7 z0 z1 z2 z3 z4 z5 z6 z7 f0 f1 f2 f3 f4 f5 f6 f7 ⊢
   clear hrb
   cases rb with
   | false=>
    have HRP3:=Lib.hid (show RP=TakeOPost (zOb,4) w from by rw[HRP2.out];simp only[HRB.out];rfl)
    go_wp2_with fail
    rw[← HW6.out]
    clear y0 y1 y2 y3 y4 y5 y6 y7 z0 z1 z2 z3 z4 z5 z6 z7 f0 f1 f2 f3 f4 f5 f6 f7
    refine HCK.out.mono ?_
    rintro e W7 ⟨rfl,hb7⟩
    have HZ7:=Lib.hid ((hb7.block _ (Array.getElem?_eq_some_iff.1 HZ6.out).1).trans HZ6.out)
    have HB7:=Lib.hid (HB6.out.trans (hb7.mono HB6.out.size))
    obtain⟨⟨z0,z1,z2,z3⟩,z4,z5,z6,z7⟩:=box8 HZ7.out
    obtain⟨⟨f0,f1,f2,f3⟩,f4,f5,f6,f7⟩:=frozen8 HZ7.out
    clear hb7
    go_wp2_with fail
    refine HZERO.out (put8 W7 w.heap.size (.int .i64 0) (.string (⟨#[]⟩:ByteArray)) (.slice none 0 0) (.slice none 0 0) (.slice none 0 0) (.int .i64 0) (.string (⟨#[]⟩:ByteArray)) (.string (⟨#[]⟩:ByteArray))) (put8_below HB7.out (Nat.le_refl _) _ _ _ _ _ _ _ _) (put8_same HZ7.out _ _ _ _ _ _ _ _) 4 _ rfl rfl HRP3.out
   | true=>
    have HRP3:=Lib.hid (show RP=TakeOPost (⟨o0,o1,o2,o3,o4,o5,o6,o7⟩,0) w from by rw[HRP2.out];simp only[HRB.out];rfl)
    go_wp2_with fail
    rw[← HW6.out]
    clear y0 y1 y2 y3 y4 y5 y6 y7 z0 z1 z2 z3 z4 z5 z6 z7 f0 f1 f2 f3 f4 f5 f6 f7
    refine HCK.out.mono ?_
    rintro e W7 ⟨rfl,hb7⟩
    have HZ7:=Lib.hid ((hb7.block _ (Array.getElem?_eq_some_iff.1 HZ6.out).1).trans HZ6.out)
    have HG7:=Lib.hid ((hb7.block _ (Array.getElem?_eq_some_iff.1 HG6.out).1).trans HG6.out)
    have HB7:=Lib.hid (HB6.out.trans (hb7.mono HB6.out.size))
    have HO7:=Lib.hid (HO6.out.move (W:=W7) (fun k hk hl=>hb7.block k hl) (Nat.le_refl _))
    obtain⟨⟨z0,z1,z2,z3⟩,z4,z5,z6,z7⟩:=box8 HZ7.out
    obtain⟨⟨y0,y1,y2,y3⟩,y4,y5,y6,y7⟩:=box8 HG7.out
    obtain⟨⟨f0,f1,f2,f3⟩,f4,f5,f6,f7⟩:=frozen8 HZ7.out
    clear hb7
    go_wp2_with fail
    refine bodyPost_ret (results_ob ob_results4 _ _ w.heap.size _ _ _ _ _ _ _ _ _ rfl rfl (put8_same HZ7.out (.int .i64 o0) (.string o1) (.slice Ar o2.length cr) (.slice Ak o3.length ck) (.slice Ap o4.length cp) (.int .i64 o5) (.string o6) (.string o7))) rfl ?_
    rw[HRP3.out]
    exact⟨Ar,cr,Ak,ck,Ap,cp,rfl,HO7.out.move (fun k hk _=>put8_far (by omega) _ _ _ _ _ _ _ _) (by omega),put8_below HB7.out (Nat.le_refl _) _ _ _ _ _ _ _ _⟩
end Go.Proofs.YtlmabbigfdbmbaaGreatDoor.PShelfNil
namespace Go.Proofs.YtlmabbigfdbmbaaGreatDoor.PShelfNil
open Go.RowKit Go.Proofs.YtlmabbigfdbmbaaGreatDoor.Ord Go.Proofs.YtlmabbigfdbmbaaGreatDoor.Obj Go.Proofs.YtlmabbigfdbmbaaGreatDoorW.PrintWords Go.Proofs.YtlmabbigfdbmbaaGreatDoorW.PrintLast Go.Proofs.YtlmabbigfdbmbaaGreatDoorW.PrintMore
theorem isL_list(l:List S32):isL (listC l)=true:=by unfold isL listC;rfl
theorem rowD_C{x:S174}(h:okV x.f2=true):rowD (rowC x)=some x:=by
 obtain⟨_,hk,h1,h2⟩:=okV_size h
 unfold rowC rowD
 rw[if_pos (isL_list _)]
 obtain⟨a,b,k,n,s⟩:=x
 simp only at hk h1 h2
 unfold listC valC
 simp only
 rcases hk with rfl | rfl
 ·have:=empty_str (h1 rfl)
  subst this
  rfl
 ·have:=h2 rfl
  subst this
  rfl
theorem rowsD_C:∀ {l:List S174},(∀ x∈l,okV x.f2=true)→rowsD (l.map rowC)=some l
 | [],_=>rfl
 | x :: xs,h=>by
  rw[List.map_cons,rowsD,rowD_C (h x List.mem_cons_self)]
  simp only
  rw[rowsD_C (fun y hy=>h y (List.mem_cons_of_mem _ hy))]
  rfl
theorem takenR_C{l:List S174}(h:okRows l=true):takenR (rowsC l)=(l,true):=by
 unfold takenR rowsC
 rw[if_pos (isL_list _)]
 show takenP (rowsD (l.map rowC))=_
 rw[rowsD_C (fun x hx=>((okRows_parts h).2 x hx).2)]
 unfold takenP
 simp only[h]
theorem kidD_C{x:S115}(h:0≤x.f0∧x.f0≤255):kidD (kidC x)=some x:=by
 unfold kidC kidD
 rw[if_pos (isL_list _)]
 show(if (1:Int)=1∧(2:Int)=2 then (if 0≤x.f0∧x.f0≤255 then some (⟨x.f0,x.f1⟩:S115)else none)else none)=some x
 rw[if_pos (by decide),if_pos h]
theorem kidsD_C:∀ {l:List S115},(∀ x∈l,0≤x.f0∧x.f0≤255)→kidsD (l.map kidC)=some l
 | [],_=>rfl
 | x :: xs,h=>by
  rw[List.map_cons,kidsD,kidD_C (h x List.mem_cons_self)]
  simp only
  rw[kidsD_C (fun y hy=>h y (List.mem_cons_of_mem _ hy))]
  rfl
theorem strsD_C:∀ (l:List ByteArray),strsD (l.map textC)=some l
 | []=>rfl
 | x :: xs=>by
  rw[List.map_cons,strsD,if_pos (show(textC x).f0=2 from rfl),strsD_C xs]
  rfl
theorem obj_back{o:Ob}(h:okOb o=true)(hw:wfOb o):objD (cellOf o)=some o:=by
 unfold okOb at h
 unfold cellOf
 split at h
 ·rename_i hk
  rw[if_pos hk]
  have p:=okNode_parts h
  have e:objD (nodeC o)=nodeD (textC o.label) (rowsC o.rows) (listC (o.kids.map kidC)):=by
   unfold objD nodeC
   rw[if_pos (isL_list _)]
   show objL [numC 1,textC o.label,rowsC o.rows,listC (o.kids.map kidC)]=_
   rw[objL,if_pos ⟨rfl,rfl⟩]
  rw[e]
  unfold nodeD
  rw[takenR_C p.rows,if_pos ⟨rfl,rfl,isL_list _⟩]
  show(kidsD (o.kids.map kidC)).map _=_
  rw[kidsD_C hw.kids]
  obtain⟨knd,lab,rws,kds,prs,stp,nte,rot⟩:=o
  have p1:=p.par;have p2:=p.stamp;have p3:=p.note;have p4:=p.root
  simp only at p1 p2 p3 p4 hk
  subst p1;subst p2;subst p3;subst p4;subst hk
  rfl
 ·rename_i hk
  rw[if_neg hk]
  split at h
  ·rename_i hk2
   have p:=okCommit_parts h
   have e:objD (commitC o)=commitD (listC (o.parents.map textC)) (numC o.stamp) (textC o.note) (textC o.root):=by
    unfold objD commitC
    rw[if_pos (isL_list _)]
    show objL [numC 2,listC (o.parents.map textC),numC o.stamp,textC o.note,textC o.root]=_
    rw[objL,if_pos ⟨rfl,rfl⟩]
   rw[e]
   unfold commitD
   rw[if_pos ⟨isL_list _,rfl,rfl,rfl⟩]
   show(strsD (o.parents.map textC)).map _=_
   rw[strsD_C]
   obtain⟨knd,lab,rws,kds,prs,stp,nte,rot⟩:=o
   have p1:=p.rows;have p2:=p.kids;have p3:=p.label
   simp only at p1 p2 p3 hk2
   subst p1;subst p2;subst p3;subst hk2
   rfl
  ·cases h
theorem byL_data(l:List UInt8):(byL l).data.toList=l:=by simp[byL]
theorem byL_size(l:List UInt8):(byL l).size=l.length:=by rw[Lib.size_eq,byL_data]
theorem byL_of(s:ByteArray):byL s.data.toList=s:=by simp[byL]
theorem take_back{x:S32}(hok:okS 16 x=true)(hw:wfS x):takeR (byL (encS x))=(x,0):=by
 have hcut:cut (byL (encS x)) 0 (encS x).length=encS x:=by unfold cut;rw[byL_data,List.drop_zero,List.take_length]
 have h:=placed_any (byL (encS x)) 16 0 x hok hw hcut (by rw[byL_size];omega)
 have hn:nextR (byL (encS x)) 0=(x,(encS x).length,0):=by
  have:=nextR_ok (s:=byL (encS x)) (p:=0) (Nat.zero_le _) h
  rw[Nat.zero_add]at this
  exact this
 unfold takeR
 rw[hn]
 simp only
 rw[if_neg (by decide),if_neg (by rw[byL_size];omega)]
theorem take_got{s:ByteArray}(hs:s.size≤140737488355328)(h:(takeR s).2=0):wfS (takeR s).1∧okS 16 (takeR s).1=true∧byL (encS (takeR s).1)=s:=by
 unfold takeR at h ⊢
 by_cases hf:(nextR s 0).2.2≠0
 ·rw[if_pos hf]at h;exact absurd h hf
 ·rw[if_neg hf]at h ⊢
  by_cases hto:(nextR s 0).2.1 < s.size
  ·rw[if_pos hto]at h;cases h
  ·rw[if_neg hto]at h ⊢
   cases hc:cellD s 16 0 with
   | bad p' e=>
    have hb:=nextR_bad (s:=s) (p:=0) (Nat.zero_le _) hc
    have hb':nextR s 0=(z32,p',e):=hb
    rw[hb']at hf
    have:=cellD_bad s 16 0 p' e hc
    simp only at hf;omega
   | ok x q=>
    have g:=cellD_got s hs 16 0 x q hc
    have hn:nextR s 0=(x,q,0):=nextR_ok (s:=s) (p:=0) (Nat.zero_le _) hc
    rw[hn]at hto ⊢
    simp only at hto ⊢
    have hq:q=s.size:=by have:=g.le;omega
    refine⟨g.wf,g.ok,?_⟩
    have he:=g.enc
    rw[hq,Nat.sub_zero]at he
    unfold cut at he
    rw[List.drop_zero,Lib.size_eq,List.take_length]at he
    rw[← he,byL_of]
theorem takeO_back{o:Ob}(h:okOb o=true)(hw:wfOb o):takeO (bytesOf o)=(o,0):=by
 have f:=fine_ob h hw
 unfold takeO bytesOf
 rw[take_back f.ok f.wf]
 simp only
 rw[if_neg (by decide)]
 unfold takeC
 rw[obj_back h hw]
 simp only[h]
 rfl
theorem take_parts{s:ByteArray}(hs:s.size≤1000000)(h:(takeR s).2=0):parts (takeR s).1≤1000000:=by
 obtain⟨hw,hk,hb⟩:=take_got (by omega) h
 have h1:=parts_enc 16 _ hk
 have h2:(byL (encS (takeR s).1)).size=s.size:=by rw[hb]
 rw[byL_size]at h2
 omega
end Go.Proofs.YtlmabbigfdbmbaaGreatDoor.PShelfNil
namespace Go.Proofs.YtlmabbigfdbmbaaGreatDoor.PShelfNil
open Go.RowKit Go.Proofs.YtlmabbigfdbmbaaGreatDoor.Ord Go.Proofs.YtlmabbigfdbmbaaGreatDoor.Obj Go.Proofs.YtlmabbigfdbmbaaGreatDoorW.PrintWords Go.Proofs.YtlmabbigfdbmbaaGreatDoorW.PrintLast Go.Proofs.YtlmabbigfdbmbaaGreatDoorW.PrintMore Go.Proofs.YtlmabbigfdbmbaaGreatDoor.Drum Go.Proofs.YtlmabbigfdbmbaaGreatDoor.Shelf
attribute [local irreducible] OpGives
def putOb(S:SS)(o:Ob):ByteArray × Int × SS:=
 if okOb o then (if (S.put (idS o) (bytesOf o)).1=0 then idS o else ⟨#[]⟩,(S.put (idS o) (bytesOf o)).1,(S.put (idS o) (bytesOf o)).2)else (⟨#[]⟩,2,S)
def PutPost(B:Nat)(w:World)(l:List Thing)(sb tb pb:Nat)(r:ByteArray × Int × SS)(e:Ending)(W':World):Prop:=∃ v,e = .returned (.tuple #[.string r.1,.int .i64 r.2.1])∧Sep B w W' (shelfT sb tb pb v r.2.2 :: l)
section
variable{B:Nat}{w W:World}{l:List Thing}{sb tb pb:Nat}{v:Value}{S:SS}{f:ByteArray→Nat}
theorem idS_size{o:Ob}(h:okOb o=true):(idS o).size=32:=by
 unfold idS
 rw[if_pos h,byL_size]
 exact Sha.sum_len _
theorem ob_sum{o:Ob}(h:okOb o=true)(hw:wfOb o)(W:World):Calls Tryz.prog 54 #[.string (bytesOf o)] W fun e w'=>e = .returned (.string (idS o))∧Below W.heap.size W w':=by
 have he:=(fine_ob h hw).enc
 have hd:(bytesOf o).data.toList=encS (cellOf o):=rfl
 have:=Dig.sum_any (bytesOf o) (by rw[Lib.size_eq,hd];omega) W
 rw[hd]at this
 unfold idS
 rw[if_pos h]
 exact this
set_option maxHeartbeats 8000000 in
set_option maxRecDepth 100000 in
theorem sPut_sep(h:Sep B w W (shelfT sb tb pb v S :: l))(ok:S.ok)(hu:S.ups≤1000000)(o:Ob)(Ar:Option Addr)(cr:Nat)(Ak:Option Addr)(ck:Nat)(Ap:Option Addr)(cp:Nat)(hO:ObAt W o Ar cr Ak ck Ap cp)(hw:wfOb o)(hT:Lib.Utf8Tabs 1 2 W) :
  Calls Tryz.prog 14 #[.pointer (some ⟨sb,0,none⟩),.agg (obV o Ar cr Ak ck Ap cp)] W (PutPost B w l sb tb pb (putOb S o)):=by
 obtain⟨W1,hW1⟩:∃ W1,W1=W.alloc (.cells (obV o Ar cr Ak ck Ap cp) 27):=⟨_,rfl⟩
 have hn1:Below W.heap.size W W1:=by rw[hW1];exact(Below.refl _ _).alloc (Nat.le_refl _) _
 have hg1:W1.heap[W.heap.size]? = some (.cells (obV o Ar cr Ak ck Ap cp) 27 (0,0)):=by rw[hW1];exact alloc_lastV _ _
 unfold obV at hg1
 obtain⟨⟨b0,b1,b2,b3⟩,b4,b5,b6,b7⟩:=box8 hg1
 have HM:=Lib.hid (smade_at (ShelfAt.of (h.grown hn1)))
 have HP:=Lib.hid (oput_calls o Ar cr Ak ck Ap cp W1 (hO.below hn1) hw (Utf8Tabs_below hT hn1))
 have HS1:=Lib.hid (h.grown hn1)
 have HSUM:=Lib.hid (fun(h:okOb o=true) W=>ob_sum h hw W)
 have HPUT:=Lib.hid (fun W' (hS:Sep B w W' (shelfT sb tb pb v S :: l)) (hk:okOb o=true)=>sput_sep hS ok hu (idS o) (bytesOf o) (by rw[idS_size hk];decide))
 unfold putOb
 unfold putS at HP
 unfold obV at hW1 HP ⊢
 rw[hW1]at b0 b1 b2 b3 b4 b5 b6 b7
 have HW1:=Lib.hid hW1
 clear hW1 hn1 hg1 hO hT hw h ok hu
 generalize okOb o=ko at *
 cases ko with
 | false=>
  clear HSUM HPUT
  go_enter Tryz.func14,Tryz.ntmps14
  go_wp2_with fail
  rw[← HW1.out]
  refine HM.out.mono ?_
  rintro e W' ⟨rfl,hWW⟩
  cases hWW
  rw[HW1.out]
  go_wp2_with fail
  rw[← HW1.out]
  refine HP.out.mono ?_
  rintro e W2 ⟨rfl,hb2⟩
  have hfin:=HS1.out.grown hb2
  go_wp2_with fail
  go_ret2
  exact⟨v,rfl,hfin⟩
 | true=>
  obtain⟨r,hr⟩:∃ r,r=S.put (idS o) (bytesOf o):=⟨_,rfl⟩
  rw[← hr]at HPUT ⊢
  clear hr
  obtain⟨rc,S'⟩:=r
  simp only at HPUT ⊢
  by_cases h0:rc=0
  ·subst h0
   simp only[if_true]
   go_enter Tryz.func14,Tryz.ntmps14
   go_wp2_with fail
   rw[← HW1.out]
   refine HM.out.mono ?_
   rintro e W' ⟨rfl,hWW⟩
   cases hWW
   rw[HW1.out]
   go_wp2_with fail
   rw[← HW1.out]
   refine HP.out.mono ?_
   rintro e W2 ⟨rfl,hb2⟩
   have HS2:=Lib.hid (HS1.out.grown hb2)
   clear hb2
   go_wp2_with fail
   refine(HSUM.out (by first | rfl | trivial) W2).mono ?_
   rintro e W3 ⟨rfl,hb3⟩
   have HS3:=Lib.hid (HS2.out.grown hb3)
   clear hb3
   go_wp2_with fail
   refine(HPUT.out W3 HS3.out (by first | rfl | trivial)).mono ?_
   rintro e W4 ⟨v',rfl,hS4⟩
   have HS4:=Lib.hid hS4
   clear hS4
   go_wp2_with fail
   go_ret2
   exact⟨v',rfl,HS4.out⟩
  ·have hb:(rc != 0)=true:=by simpa using h0
   simp only[if_true,if_neg h0]
   go_enter Tryz.func14,Tryz.ntmps14
   go_wp2_with fail
   rw[← HW1.out]
   refine HM.out.mono ?_
   rintro e W' ⟨rfl,hWW⟩
   cases hWW
   rw[HW1.out]
   go_wp2_with fail
   rw[← HW1.out]
   refine HP.out.mono ?_
   rintro e W2 ⟨rfl,hb2⟩
   have HS2:=Lib.hid (HS1.out.grown hb2)
   clear hb2
   go_wp2_with fail
   refine(HSUM.out (by first | rfl | trivial) W2).mono ?_
   rintro e W3 ⟨rfl,hb3⟩
   have HS3:=Lib.hid (HS2.out.grown hb3)
   clear hb3
   go_wp2_with fail
   refine(HPUT.out W3 HS3.out (by first | rfl | trivial)).mono ?_
   rintro e W4 ⟨v',rfl,hS4⟩
   have HS4:=Lib.hid hS4
   clear hS4
   go_wp2_with fail
   go_ret2
   exact⟨v',rfl,HS4.out⟩
end
end Go.Proofs.YtlmabbigfdbmbaaGreatDoor.PShelfNil
namespace Go.Proofs.YtlmabbigfdbmbaaGreatDoor.Tape
open Go.RowKit Go.Proofs.YtlmabbigfdbmbaaGreatDoor.Ord Go.Proofs.YtlmabbigfdbmbaaGreatDoorW.PrintWords Go.Proofs.YtlmabbigfdbmbaaGreatDoor.Base Go.Proofs.YtlmabbigfdbmbaaGreatDoor.Drum
attribute [local irreducible] OpGives
theorem scan_nil(w:World):Calls Tryz.prog 88 #[.pointer none] w fun e w'=>e = .returned (.tuple #[.slice none 0 0,.int .i64 0,.int .i64 0,.int .i64 1])∧w'=w:=by
 have hs:=ready_nil w
 go_enter Tryz.func88,Tryz.ntmps88
 go_wp2_with fail
 refine hs.mono ?_
 rintro e w' ⟨rfl,rfl⟩
 go_wp2
 refine bodyPost_ret (v:=.tuple #[.slice none 0 0,.int .i64 0,.int .i64 0,.int .i64 1]) (by simp[results,Tryz.f88,go_sem]) rfl ?_
 exact⟨rfl,rfl⟩
theorem open_nil(w:World):Calls Tryz.prog 57 #[.pointer none] w fun e w'=>e = .returned (.tuple #[.pointer none,.slice none 0 0,.int .i64 1])∧w'=w:=by
 have hs:=scan_nil w
 go_enter Tryz.func57,Tryz.ntmps57
 go_wp2_with fail
 refine hs.mono ?_
 rintro e w' ⟨rfl,rfl⟩
 go_wp2
 refine bodyPost_ret (v:=.tuple #[.pointer none,.slice none 0 0,.int .i64 1]) (by simp[results,Tryz.f57,go_sem]) rfl ?_
 exact⟨rfl,rfl⟩
end Go.Proofs.YtlmabbigfdbmbaaGreatDoor.Tape
namespace Go.Proofs.YtlmabbigfdbmbaaGreatDoor.PShelfNil
open Go.RowKit Go.Proofs.YtlmabbigfdbmbaaGreatDoor.Ord Go.Proofs.YtlmabbigfdbmbaaGreatDoor.Obj Go.Proofs.YtlmabbigfdbmbaaGreatDoorW.PrintWords Go.Proofs.YtlmabbigfdbmbaaGreatDoorW.PrintLast Go.Proofs.YtlmabbigfdbmbaaGreatDoorW.PrintMore Go.Proofs.YtlmabbigfdbmbaaGreatDoor.Drum Go.Proofs.YtlmabbigfdbmbaaGreatDoor.Shelf
attribute [local irreducible] OpGives
def NoShelf(w:World)(p:Value):Prop:=p = .pointer none∨∃ b,p = .pointer (some ⟨b,0,none⟩)∧w.cell? ⟨b,0,none⟩=some (.pointer none)
theorem NoShelf.below{w w':World}{p:Value}(h:NoShelf w p)(hb:Below w.heap.size w w'):NoShelf w' p:=by
 rcases h with rfl | ⟨b,rfl,hc⟩
 ·exact .inl rfl
 ·exact .inr ⟨b,rfl,pw_cell_below hb hc⟩
theorem smade_no(p:Value)(w:World)(h:NoShelf w p):Calls Tryz.prog 52 #[p] w fun e w'=>e = .returned (.bool false)∧w'=w:=by
 rcases h with rfl | ⟨b,rfl,hc⟩
 ·go_enter Tryz.func52,Tryz.ntmps52
  go_wp2
  go_ret
  exact⟨rfl,rfl⟩
 ·go_enter Tryz.func52,Tryz.ntmps52
  go_wp2
  go_ret
  exact⟨rfl,rfl⟩
theorem slen_no(p:Value)(w:World)(h:NoShelf w p):Calls Tryz.prog 21 #[p] w fun e w'=>e = .returned (.int .i64 0)∧w'=w:=by
 have hs:=smade_no p w h
 go_enter Tryz.func21,Tryz.ntmps21
 go_wp2_with fail
 refine hs.mono ?_
 rintro e w' ⟨rfl,rfl⟩
 go_wp2
 go_ret
 exact⟨rfl,rfl⟩
theorem sfresh_no(p:Value)(w:World)(h:NoShelf w p):Calls Tryz.prog 22 #[p] w fun e w'=>e = .returned (.int .i64 0)∧w'=w:=by
 have hs:=smade_no p w h
 go_enter Tryz.func22,Tryz.ntmps22
 go_wp2_with fail
 refine hs.mono ?_
 rintro e w' ⟨rfl,rfl⟩
 go_wp2
 go_ret
 exact⟨rfl,rfl⟩
theorem sroom_no(p:Value)(w:World)(h:NoShelf w p):Calls Tryz.prog 23 #[p] w fun e w'=>e = .returned (.int .i64 0)∧w'=w:=by
 have hs:=smade_no p w h
 go_enter Tryz.func23,Tryz.ntmps23
 go_wp2_with fail
 refine hs.mono ?_
 rintro e w' ⟨rfl,rfl⟩
 go_wp2
 go_ret
 exact⟨rfl,rfl⟩
theorem sbatches_no(p:Value)(w:World)(h:NoShelf w p):Calls Tryz.prog 24 #[p] w fun e w'=>e = .returned (.int .i64 0)∧w'=w:=by
 have hs:=smade_no p w h
 go_enter Tryz.func24,Tryz.ntmps24
 go_wp2_with fail
 refine hs.mono ?_
 rintro e w' ⟨rfl,rfl⟩
 go_wp2
 go_ret
 exact⟨rfl,rfl⟩
theorem sdrop_no(p:Value)(w:World)(h:NoShelf w p):Calls Tryz.prog 20 #[p] w fun e w'=>e = .returned (.int .i64 0)∧w'=w:=by
 have hs:=smade_no p w h
 go_enter Tryz.func20,Tryz.ntmps20
 go_wp2_with fail
 refine hs.mono ?_
 rintro e w' ⟨rfl,rfl⟩
 go_wp2
 go_ret
 exact⟨rfl,rfl⟩
theorem sopen_nil(w:World):Calls Tryz.prog 16 #[.pointer none] w fun e w'=>e = .returned (.tuple #[.pointer none,.slice none 0 0,.int .i64 1])∧w'=w:=by
 have hs:=Tape.open_nil w
 go_enter Tryz.func16,Tryz.ntmps16
 go_wp2_with fail
 refine hs.mono ?_
 rintro e w' ⟨rfl,rfl⟩
 go_wp2
 refine bodyPost_ret (v:=.tuple #[.pointer none,.slice none 0 0,.int .i64 1]) (by simp[results,Tryz.f16,go_sem]) rfl ?_
 exact⟨rfl,rfl⟩
set_option maxHeartbeats 4000000 in
set_option maxRecDepth 100000 in
theorem sput_no(p:Value)(o:Ob)(Ar:Option Addr)(cr:Nat)(Ak:Option Addr)(ck:Nat)(Ap:Option Addr)(cp:Nat)(w:World)(h:NoShelf w p) :
  Calls Tryz.prog 14 #[p,.agg (obV o Ar cr Ak ck Ap cp)] w fun e w'=>e = .returned (.tuple #[.string ⟨#[]⟩,.int .i64 1])∧Below w.heap.size w w':=by
 unfold obV
 obtain⟨W1,hW1⟩:∃ W1,W1=w.alloc (.cells #[.int .i64 o.kind,.string o.label,.slice Ar o.rows.length cr,.slice Ak o.kids.length ck,.slice Ap o.parents.length cp,.int .i64 o.stamp,.string o.note,.string o.root] 27):=⟨_,rfl⟩
 have hn1:Below w.heap.size w W1:=by rw[hW1];exact(Below.refl _ _).alloc (Nat.le_refl _) _
 have hs:=Lib.hid (smade_no p W1 (h.below hn1))
 have HN1:=Lib.hid hn1
 have HW1:=Lib.hid hW1
 clear hW1 hn1 h
 go_enter Tryz.func14,Tryz.ntmps14
 go_wp2_with fail
 rw[← HW1.out]
 refine hs.out.mono ?_
 rintro e w' ⟨rfl,hw⟩
 cases hw
 go_wp2_with fail
 go_ret2
 exact⟨rfl,HN1.out⟩
theorem get_results:(Tryz.f15).results=#[.cell 4 27,.tmp 5]:=Tryz.results15
theorem results_get(tmps:Array Value)(w:World)(c:Nat)(a0 a1 a2 a3 a4 a5 a6 a7 b:Value)(h2:tmps.getD 4 undef = .pointer (some ⟨c,0,none⟩))(h3:tmps.getD 5 undef=b)
  (hc:w.heap[c]? = some (.cells #[a0,a1,a2,a3,a4,a5,a6,a7] 27 (0,0))) :
  (results Tryz.f15 tmps).run Tryz.prog w = .ok (.tuple #[.agg #[a0,a1,a2,a3,a4,a5,a6,a7],b]) w:=by
 have h2':tmps[4]?.getD undef = .pointer (some ⟨c,0,none⟩):=by simpa using h2
 have h3':tmps[5]?.getD undef=b:=by simpa using h3
 obtain⟨⟨k0,k1,k2,k3⟩,k4,k5,k6,k7⟩:=box8 hc
 simp[results,get_results,h2',h3',asAddr,k0,k1,k2,k3,k4,k5,k6,k7,go_sem]
set_option maxHeartbeats 4000000 in
set_option maxRecDepth 100000 in
theorem sget_no(p:Value)(id:ByteArray)(w:World)(h:NoShelf w p) :
  Calls Tryz.prog 15 #[p,.string id] w (TakeOPost (zOb,1) w):=by
 obtain⟨W1,hW1⟩:∃ W1,W1=w.alloc (.cells obZ 27):=⟨_,rfl⟩
 have hn1:Below w.heap.size w W1:=by rw[hW1];exact(Below.refl _ _).alloc (Nat.le_refl _) _
 have hg1:W1.heap[w.heap.size]? = some (.cells obZ 27 (0,0)):=by rw[hW1];exact alloc_lastV _ _
 have hs:=Lib.hid (smade_no p W1 (h.below hn1))
 unfold obZ at hg1 hW1
 obtain⟨⟨z0,z1,z2,z3⟩,z4,z5,z6,z7⟩:=box8 hg1
 obtain⟨⟨f0,f1,f2,f3⟩,f4,f5,f6,f7⟩:=frozen8 hg1
 have HN1:=Lib.hid hn1
 have HG1:=Lib.hid hg1
 have HW1:=Lib.hid hW1
 clear hW1 hn1 h hg1
 go_enter Tryz.func15,Tryz.ntmps15
 go_wp2_with fail
 rw[← HW1.out]
 refine hs.out.mono ?_
 rintro e w' ⟨rfl,hw⟩
 cases hw
 go_wp2_with fail
 refine bodyPost_ret (results_get _ _ w.heap.size _ _ _ _ _ _ _ _ _ rfl rfl (put8_same HG1.out _ _ _ _ _ _ _ _)) rfl ?_
 exact⟨none,0,none,0,none,0,rfl,ObR_zero _ _,put8_below HN1.out (Nat.le_refl _) _ _ _ _ _ _ _ _⟩
set_option maxHeartbeats 4000000 in
set_option maxRecDepth 100000 in
theorem scommit_no(p:Value)(k n:Int)(s:ByteArray)(A:Option Addr)(m c:Nat)(w:World)(h:NoShelf w p) :
  Calls Tryz.prog 18 #[p,.agg #[.int .i64 k,.int .i64 n,.string s,.slice A m c]] w fun e w'=>e = .returned (.int .i64 1)∧Below w.heap.size w w':=by
 obtain⟨W1,hW1⟩:∃ W1,W1=w.alloc (.cells #[.int .i64 k,.int .i64 n,.string s,.slice A m c] 32):=⟨_,rfl⟩
 have hn1:Below w.heap.size w W1:=by rw[hW1];exact(Below.refl _ _).alloc (Nat.le_refl _) _
 have hs:=Lib.hid (smade_no p W1 (h.below hn1))
 have HN1:=Lib.hid hn1
 have HW1:=Lib.hid hW1
 clear hW1 hn1 h
 go_enter Tryz.func18,Tryz.ntmps18
 go_wp2_with fail
 rw[← HW1.out]
 refine hs.out.mono ?_
 rintro e w' ⟨rfl,hw⟩
 cases hw
 go_wp2_with fail
 go_ret
 exact⟨rfl,HN1.out⟩
end Go.Proofs.YtlmabbigfdbmbaaGreatDoor.PShelfNil
namespace Go.Proofs.YtlmabbigfdbmbaaGreatDoor.PShelfNil
open Go.RowKit Go.Proofs.YtlmabbigfdbmbaaGreatDoor.Ord Go.Proofs.YtlmabbigfdbmbaaGreatDoor.Obj Go.Proofs.YtlmabbigfdbmbaaGreatDoorW.PrintWords Go.Proofs.YtlmabbigfdbmbaaGreatDoorW.PrintLast Go.Proofs.YtlmabbigfdbmbaaGreatDoorW.PrintMore Go.Proofs.YtlmabbigfdbmbaaGreatDoor.Shelf
attribute [local irreducible] OpGives
def getS(S:SS)(id:ByteArray):Ob × Int:=match S.bytes id with
 | none=>(zOb,6)
 | some b=>takeO b
section
variable{W:World}{sb tb pb:Nat}{v:Value}{S:SS}
set_option maxHeartbeats 8000000 in
set_option maxRecDepth 100000 in
theorem sget_at(h:ShelfAt W sb tb pb v S (place S.things))(ok:S.ok)(hu:S.ups≤1000000)(id:ByteArray)(hi:id.size≤1000000)(hT:Lib.Utf8Tabs 1 2 W) :
  Calls Tryz.prog 15 #[.pointer (some ⟨sb,0,none⟩),.string id] W (TakeOPost (getS S id) W):=by
 obtain⟨A,c,rfl⟩:=h.slice
 obtain⟨W1,hW1⟩:∃ W1,W1=W.alloc (.cells obZ 27):=⟨_,rfl⟩
 have hn1:Below W.heap.size W W1:=by rw[hW1];exact(Below.refl _ _).alloc (Nat.le_refl _) _
 have hg1:W1.heap[W.heap.size]? = some (.cells obZ 27 (0,0)):=by rw[hW1];exact alloc_lastV _ _
 have hs1:W1.heap.size=W.heap.size+1:=by rw[hW1];simp
 have hS1:=h.new hn1
 have hm:=Lib.hid (smade_at hS1)
 have c1:=hS1.c1
 have c2:=hS1.c2
 have hlk:=hS1.map.look (s:=id) (by unfold maxLen;omega)
 unfold obZ at hg1 hW1
 obtain⟨⟨z0,z1,z2,z3⟩,z4,z5,z6,z7⟩:=box8 hg1
 obtain⟨⟨f0,f1,f2,f3⟩,f4,f5,f6,f7⟩:=frozen8 hg1
 have HN1:=Lib.hid hn1
 have HG1:=Lib.hid hg1
 have HS1:=Lib.hid hs1
 have HT:=Lib.hid (Utf8Tabs_below hT hn1)
 unfold getS
 cases hb:S.bytes id with
 | none=>
  rw[SS.bytes_none.1 hb]at hlk
  have HW1:=Lib.hid hW1
  clear h hS1 hW1 hn1 hg1 hs1 hT hb ok hu hi
  go_enter Tryz.func15,Tryz.ntmps15
  go_wp2_with fail
  rw[← HW1.out]
  refine hm.out.mono ?_
  rintro e w' ⟨rfl,hw⟩
  cases hw
  go_wp2_with fail
  refine bodyPost_ret (results_get _ _ W.heap.size _ _ _ _ _ _ _ _ _ rfl rfl (put8_same HG1.out _ _ _ _ _ _ _ _)) rfl ?_
  exact⟨none,0,none,0,none,0,rfl,ObR_zero _ _,put8_below HN1.out (Nat.le_refl _) _ _ _ _ _ _ _ _⟩
 | some b=>
  obtain⟨hp,hx⟩:=SS.bytes_some hb
  obtain⟨q,hq⟩:∃ q,place S.things id=q+1:=⟨place S.things id - 1,by omega⟩
  have hle:=place_le S.things id
  have hlen:=ok.2.2.1
  rw[hq]at hlk hx hle
  rw[Nat.add_sub_cancel]at hx
  have hbs:=(ok.2.2.2 _ (List.mem_of_getElem? hx)).2
  simp only at hbs
  obtain⟨g,rfl,_,hc⟩:=hS1.thing hx
  have hw1:wrap64 (q:Int)=(q:Int):=by unfold wrap64;omega
  have hgt:((q:Int)+1 == 0)=false:=by simp;omega
  rw[show((q+1:Nat):Int)=(q:Int)+1 by omega]at hlk
  have hb1:0≤(q:Int)∧(q:Int) < (S.things.length:Int):=by omega
  simp only at hc
  have HTK:=Lib.hid (otake_calls b W1 (by omega) (fun h0=>take_parts (by omega) h0) HT.out)
  generalize S.things.length=n at *
  show Calls _ _ _ W (TakeOPost (takeO b) W)
  generalize takeO b=r at HTK ⊢
  have HW1:=Lib.hid hW1
  clear h hS1 hW1 hn1 hg1 hs1 hT hb ok hu hi hp hx hle hlen hq hbs z0 z1 z2 z3 z4 z5 z6 z7 f0 f1 f2 f3 f4 f5 f6 f7
  go_enter Tryz.func15,Tryz.ntmps15
  go_wp2_with fail
  rw[← HW1.out]
  refine hm.out.mono ?_
  rintro e w' ⟨rfl,hw⟩
  cases hw
  go_wp2_with fail
  clear c1 c2 hc hlk
  refine HTK.out.mono ?_
  rintro e W2 ⟨Ar,cr,Ak,ck,Ap,cp,rfl,hO,hb2⟩
  have hg2:=(hb2.block _ (Array.getElem?_eq_some_iff.1 HG1.out).1).trans HG1.out
  obtain⟨⟨z0,z1,z2,z3⟩,z4,z5,z6,z7⟩:=box8 hg2
  obtain⟨⟨f0,f1,f2,f3⟩,f4,f5,f6,f7⟩:=frozen8 hg2
  have HG2:=Lib.hid hg2
  have HB2:=Lib.hid (HN1.out.trans (hb2.mono HN1.out.size))
  have HO:=Lib.hid hO
  obtain⟨⟨o0,o1,o2,o3,o4,o5,o6,o7⟩,er⟩:=r
  unfold obV
  simp only at HO ⊢
  clear hg2 hO hb2
  go_wp2_with fail
  refine bodyPost_ret (results_get _ _ W.heap.size _ _ _ _ _ _ _ _ _ rfl rfl (put8_same HG2.out (.int .i64 o0) (.string o1) (.slice Ar o2.length cr) (.slice Ak o3.length ck) (.slice Ap o4.length cp) (.int .i64 o5) (.string o6) (.string o7))) rfl ?_
  have hOf:ObR (put8 W2 W.heap.size (.int .i64 o0) (.string o1) (.slice Ar o2.length cr) (.slice Ak o3.length ck) (.slice Ap o4.length cp) (.int .i64 o5) (.string o6) (.string o7)) W.heap.size ⟨o0,o1,o2,o3,o4,o5,o6,o7⟩ Ar cr Ak ck Ap cp:=
   HO.out.move (fun k hk _=>put8_far (by have:=HS1.out;omega) _ _ _ _ _ _ _ _) (by have:=HS1.out;omega)
  exact⟨Ar,cr,Ak,ck,Ap,cp,rfl,hOf,put8_below HB2.out (Nat.le_refl _) _ _ _ _ _ _ _ _⟩
end
end Go.Proofs.YtlmabbigfdbmbaaGreatDoor.PShelfNil
namespace Go.Proofs.YtlmabbigfdbmbaaGreatDoor.Shelf
open Go.RowKit Go.Proofs.YtlmabbigfdbmbaaGreatDoor.Ord Go.Proofs.YtlmabbigfdbmbaaGreatDoorW.PrintWords Go.Proofs.YtlmabbigfdbmbaaGreatDoor.Base Go.Proofs.YtlmabbigfdbmbaaGreatDoor.Drum Go.Proofs.YtlmabbigfdbmbaaGreatDoor.Tape
attribute [local go_sem] rdl_const rdl_func rdl_global rdl_nil rdl_cons
attribute [local irreducible] OpGives
section
variable{B:Nat}{w W:World}{l:List Thing}{sb tb pb:Nat}{v:Value}{S:SS}{f:ByteArray→Nat}
theorem ShelfAt.cut{A:Option Addr}{n c:Nat}(h:ShelfAt W sb tb pb (.slice A n c) S f)(hle:S.sure≤S.things.length)(hn:n=S.things.length){g:ByteArray→Nat}(hg:∀ x,f x=g x) :
  ShelfAt (W.setCell ⟨sb,1,none⟩ (.slice A S.sure c)) sb tb pb (.slice A S.sure c) S.drop g:=by
 subst hn
 have ho:(Value.slice A S.sure c).ownBlock=(Value.slice A S.things.length c).ownBlock:=by cases A<;>rfl
 have hM:=h.map.congr hg
 refine⟨cells_set h.box 1 _,?_,hM.kept (G:=fun k=>k=sb) (Mod.setCell _ _ _ rfl) (fun e=>h.ne e.symm),h.ne,by rw[ho];exact h.nv,by rw[ho];exact h.nm⟩
 have hl:(S.things.take S.sure).length=S.sure:=by rw[List.length_take];omega
 show World.ownsRow _ 0 108 2 (.slice A S.sure c) (S.things.take S.sure).length (thingCells (S.things.take S.sure))
 have h1:W.ownsRow 0 108 2 (.slice A S.sure c) S.sure (thingCells (S.things.take S.sure)):=by
  refine⟨by rw[thingCells_len,hl],?_⟩
  rcases h.row.2 with ⟨e,h0⟩ | ⟨k,cp,cur,e,hb,hg,h1,h2,h3,h4⟩
  ·injection e with e1 e2 e3
   exact .inl ⟨by rw[e1,e3,show S.sure=0 by omega],by omega⟩
  ·injection e with e1 e2 e3
   subst e3
   refine .inr ⟨k,c,cur,by rw[e1],hb,hg,by omega,h2,h3,?_⟩
   rw[thingCells_take,← h4,List.take_take,Nat.min_eq_left (by omega)]
 rw[hl]
 exact ownsRow_mod h1 (Mod.setCell (F:=fun k=>k=sb) W ⟨sb,1,none⟩ _ rfl) (fun k hk e=>h.nv (by rw[← ho,hk,e]))
set_option maxHeartbeats 8000000 in
set_option maxRecDepth 100000 in
theorem sdrop_sep(h:Sep B w W (shelfT sb tb pb v S :: l))(ok:S.ok)(hu:S.ups≤1000000) :
  Calls Tryz.prog 20 #[.pointer (some ⟨sb,0,none⟩)] W fun e W'=>∃ v',e = .returned (.int .i64 ((S.things.length - S.sure:Nat):Int))∧Sep B w W' (shelfT sb tb pb v' S.drop :: l):=by
 have hS:=ShelfAt.of h
 obtain⟨A,c,rfl⟩:=hS.slice
 have hm:=Lib.hid (smade_at hS)
 have hle:=ok.2.1
 have hle2:=ok.2.2.1
 have hfr:=Lib.hid (sfresh_at hS hle (by omega))
 have c1:=fun n=>(hS.new (bdN' (n:=n) (Below.refl _ _))).c1
 have c3:=fun n=>(hS.new (bdN' (n:=n) (Below.refl _ _))).c3
 have hcap:S.things.length≤c:=by
  rcases hS.row.2 with ⟨e,h0⟩ | ⟨g,cp,cur,e,_,_,h1,_⟩
  ·omega
  ·injection e with e1 e2 e3;omega
 have hsl:0≤(S.sure:Int)∧(S.sure:Int)≤(S.things.length:Int):=by omega
 have hsl2:(S.things.length:Int)≤(c:Int):=by omega
 have H:=Lib.hid h
 have HOK:=Lib.hid ok
 have HU:=Lib.hid hu
 clear h hS ok hu
 go_enter Tryz.func20,Tryz.ntmps20
 go_wp2_with fail
 refine hm.out.mono ?_
 rintro e w' ⟨rfl,rfl⟩
 go_wp2_with fail
 refine hfr.out.mono ?_
 rintro e w' ⟨rfl,n1,rfl⟩
 go_wp2_with fail
 refine wp_region_quiet_lit (by kernel_rfl) (by kernel_rfl) ?_
 repeat (quiet_step (fail))
 refine wpQuiet_nil ?_
 intro _ hw'
 obtain⟨nq,hw''⟩:=hw'
 subst hw''
 obtain⟨Y,hY⟩:∃ Y,Y=(if c=S.sure then A else A.map (fun x=>x.add (S.sure * 2))):=⟨_,rfl⟩
 rw[← hY]
 have HY:=Lib.hid hY
 have H0:=Lib.hid (show Sep B w ((w'.drewN n1).drewN nq) (shelfM sb tb pb (.slice A S.things.length c) S (placeD S.things S.sure 0) :: l)by
  have h1:=(H.out.drewN n1).drewN nq
  have:placeD S.things S.sure 0=place S.things:=funext (placeD_zero _ _)
  rw[this];exact h1)
 have hdrop:∀ W',Sep B w W' (shelfM sb tb pb (.slice A S.things.length c) S (placeD S.things S.sure (S.things.length - S.sure)) :: l)→Sep B w (W'.setCell ⟨sb,1,none⟩ (.slice A S.sure c)) (shelfT sb tb pb (.slice A S.sure c) S.drop :: l):=fun W' hW=>by
  refine hW.turn (t':=shelfT sb tb pb (.slice A S.sure c) S.drop) (Mod.setCell _ _ _ (.inl rfl)) ((ShelfAt.ofM hW).cut hle rfl (placeD_end _ _ _ (by omega))) (fun k hk=>?_)
  refine .inl ?_
  rcases hk with e | e | e
  ·exact .inl e
  ·exact .inr (.inl e)
  ·exact .inr (.inr (by rw[← e];cases A<;>rfl))
 have HD:=Lib.hid hdrop
 have hkeep:S.things.length≤1000000:=by have:=HU.out;omega
 clear hY hdrop c1 c3 hsl hsl2 hm hfr
 generalize (w'.drewN n1).drewN nq=W0 at H0 ⊢
 go_wp2_with fail
 go_loopw [21] (fun v wr=>∃ i:Nat,v = .int .i64 (i:Int)∧i≤S.things.length - S.sure∧Sep B w wr (shelfM sb tb pb (.slice A S.things.length c) S (placeD S.things S.sure i) :: l)) (fun v _=>S.things.length - S.sure - (intOf v).toNat)
 case atStart=>exact⟨0,rfl,Nat.zero_le _,H0.out⟩
 case round=>
  obtain⟨i,rfl,hi,hsep⟩:=hrel
  have HSP:=Lib.hid hsep
  by_cases hil:i < S.things.length - S.sure
  ·obtain⟨x,hx⟩:∃ x,S.things[S.sure+i]? = some x:=⟨_,List.getElem?_eq_getElem (by omega)⟩
   obtain⟨g,hA,e0,e1⟩:=(ShelfAt.ofM hsep).thing hx
   have hYg:Y=some ⟨g,S.sure * 2,none⟩:=by
    rw[HY.out,if_neg (by omega),hA]
    simp[Addr.add]
    omega
   subst hYg
   rw[show(S.sure+i) * 2=S.sure * 2+i * 2 by omega]at e0 e1
   obtain⟨W3,hW3⟩:∃ W3,W3=wr.alloc (.cells #[.string x.1,.string x.2] 108):=⟨_,rfl⟩
   have hn3:NewMem wr W3:=by rw[hW3];exact NewMem.alloc _ _
   have hg3:W3.heap[wr.heap.size]? = some (.cells #[.string x.1,.string x.2] 108 (0,0)):=by rw[hW3];exact heap_alloc_last _ _
   have HS3:=Lib.hid (hsep.grown hn3)
   have HG3:=Lib.hid hg3
   have HX:=Lib.hid hx
   have HW3:=Lib.hid hW3
   have hbi:0≤(i:Int)∧(i:Int) < ((S.things.length - S.sure:Nat):Int):=by omega
   have hw1:wrap64 ((i:Int)+1)=(i:Int)+1:=by unfold wrap64;omega
   clear hsep hW3 hn3 hg3 hx
   go_wp2_with fail
   rw[← HW3.out]
   clear e0 e1
   refine' wp_region_factsT (S:=(NewMem W3)) (R:=NewMem) [eqF _ _,eqF _ _,eqF _ _,eqF _ (.map (some pb)),eqF _ _,eqF _ (.string x.1)] (by kernel_rfl) (by kernel_rfl) ?hS ?h0 (Ord.steps_cons ?s0 (Ord.steps_cons ?s1 (Ord.steps_cons ?s2 (Ord.steps_cons ?s3 (Ord.steps_cons ?s4 (Ord.steps_cons ?s5 (Ord.steps_nil))))))) ?fin
   case s0=>
    intro g W hSW hd
    try simp only[Nat.zero_add,Nat.reduceAdd]at hd ⊢
    with_reducible refine OpGives.pre_reads [] 45 ?_ ?_ ?_
    ·rfl
    ·kernel_rfl
    simp only[List.map_cons,List.map_nil]
    refine OpGives.val (w':=W) ?_ ⟨NewMem.refl _,rfl⟩
    go_simp
    try with_reducible rfl
   case s1=>
    intro g W hSW hd
    try simp only[Nat.zero_add,Nat.reduceAdd]at hd ⊢
    have h0:g 0=_:=hd 0 (by decide) (by kernel_rfl)
    with_reducible refine OpGives.pre_reads [(25,0)] 45 ?_ ?_ ?_
    ·rfl
    ·kernel_rfl
    simp only[List.map_cons,List.map_nil]
    refine OpGives.val (w':=W) ?_ ⟨NewMem.refl _,rfl⟩
    go_simp
    try with_reducible rfl
   case s2=>
    intro g W hSW hd
    try simp only[Nat.zero_add,Nat.reduceAdd]at hd ⊢
    have h1:g 1=_:=hd 1 (by decide) (by kernel_rfl)
    with_reducible refine OpGives.pre_reads [(26,1)] 45 ?_ ?_ ?_
    ·rfl
    ·kernel_rfl
    simp only[List.map_cons,List.map_nil]
    refine OpGives.val (w':=W) ?_ ⟨NewMem.refl _,rfl⟩
    go_simp
    try with_reducible rfl
   case s3=>
    intro g W hSW hd
    try simp only[Nat.zero_add,Nat.reduceAdd]at hd ⊢
    have h2:g 2=_:=hd 2 (by decide) (by kernel_rfl)
    with_reducible refine OpGives.pre_reads [(27,2)] 45 ?_ ?_ ?_
    ·rfl
    ·kernel_rfl
    simp only[List.map_cons,List.map_nil]
    have c2:=(ShelfAt.ofM (HS3.out.grown hSW)).c2;refine OpGives.val (w':=W) ?_ ⟨NewMem.refl _,rfl⟩;go_simp
   case s4=>
    intro g W hSW hd
    try simp only[Nat.zero_add,Nat.reduceAdd]at hd ⊢
    with_reducible refine OpGives.pre_reads [] 45 ?_ ?_ ?_
    ·rfl
    ·kernel_rfl
    simp only[List.map_cons,List.map_nil]
    refine OpGives.val (w':=W) ?_ ⟨NewMem.refl _,rfl⟩
    go_simp
    try with_reducible rfl
   case s5=>
    intro g W hSW hd
    try simp only[Nat.zero_add,Nat.reduceAdd]at hd ⊢
    have h4:g 4=_:=hd 4 (by decide) (by kernel_rfl)
    with_reducible refine OpGives.pre_reads [(29,4)] 45 ?_ ?_ ?_
    ·rfl
    ·kernel_rfl
    simp only[List.map_cons,List.map_nil]
    have k0:W.cell? ⟨wr.heap.size,0,none⟩=some (.string x.1):=by { rw[Lib.cell_of_heap ((hSW.block _ (Array.getElem?_eq_some_iff.1 HG3.out).1).trans HG3.out)];rfl };refine OpGives.val (w':=W) ?_ ⟨NewMem.refl _,rfl⟩;go_simp
   case hS=>exact fun a c h k=>NewMem.trans h k
   case h0=>exact bdN' (n:=1) (Below.refl _ _)
   case fin=>
    intro u W' hSW hf
    have h3:u 3=_:=hf 3 (Nat.lt_of_lt_of_eq (by decide:3 < 6) rfl)
    have h5:u 5=_:=hf 5 (Nat.lt_of_lt_of_eq (by decide:5 < 6) rfl)
    clear hf
    generalize hF:Ord.pre _ _ u _=F
    rw[Ord.pre_lit [some 25,some 26,some 27,some 28,some 29,some 30]
     (by kernel_rfl)]at hF
    simp only[Ord.puts,Nat.zero_add,Nat.reduceAdd]at hF
    subst hF
    rw[h3,h5]
    have hS4:=ShelfAt.ofM (HS3.out.grown hSW)
    have hxs:=(HOK.out.2.2.2 x (List.mem_of_getElem? HX.out)).1
    obtain⟨W5,hr5,hM5,hm5⟩:=hS4.map.drop (s:=x.1) (by unfold maxLen;omega) 0
    have hS5:=hS4.updated hm5 (hM5.congr (g:=placeD S.things S.sure (i+1)) (fun y=>(placeD_step HOK.out.1 HX.out y).symm))
    have hfin:Sep B w W5 (shelfM sb tb pb (.slice A S.things.length c) S (placeD S.things S.sure (i+1)) :: l):=
     (HS3.out.grown hSW).turn (hm5.mono (fun k e=> .inr (.inl e))) hS5 (fun k hk=> .inl hk)
    have HFIN:=Lib.hid hfin
    clear hfin hS5 hM5 hm5 hS4 h3 h5
    refine any_one (i:=6) (by kernel_rfl) (wpOp_value (v:=.tuple #[]) (w':=W5) rfl rfl (by go_simp) ?_)
    refine wpAny_done (by kernel_rfl) ?_ _
    simp only[List.getElem_toArray,List.getElem_cons_succ,List.getElem_cons_zero]
    go_frame
    go_wp2_with fail
    go_roundw
    case rel=>exact⟨i+1,by go_num,by omega,HFIN.out⟩
    case measure=>simp[intOf];omega
  ·have hie:i=S.things.length - S.sure:=by omega
   subst hie
   go_wp2_with fail
   refine' wp_region_factsT (S:=(NewMem wr)) (R:=NewMem) [eqF _ _,eqF _ _,eqF _ _,eqF _ _,eqF _ (.slice A S.things.length c),eqF _ _,eqF _ _,eqF _ _,eqF _ (.int .i64 (S.sure:Int)),eqF _ (.slice A S.sure c),eqF _ _,eqF _ _] (by kernel_rfl) (by kernel_rfl) ?hS ?h0 (Ord.steps_cons ?s0 (Ord.steps_cons ?s1 (Ord.steps_cons ?s2 (Ord.steps_cons ?s3 (Ord.steps_cons ?s4 (Ord.steps_cons ?s5 (Ord.steps_cons ?s6 (Ord.steps_cons ?s7 (Ord.steps_cons ?s8 (Ord.steps_cons ?s9 (Ord.steps_cons ?s10 (Ord.steps_cons ?s11 (Ord.steps_nil))))))))))))) ?fin
   case s0=>
    intro g W hSW hd
    try simp only[Nat.zero_add,Nat.reduceAdd]at hd ⊢
    with_reducible refine OpGives.pre_reads [] 45 ?_ ?_ ?_
    ·rfl
    ·kernel_rfl
    simp only[List.map_cons,List.map_nil]
    refine OpGives.val (w':=W) ?_ ⟨NewMem.refl _,rfl⟩
    go_simp
    try with_reducible rfl
   case s1=>
    intro g W hSW hd
    try simp only[Nat.zero_add,Nat.reduceAdd]at hd ⊢
    with_reducible refine OpGives.pre_reads [] 45 ?_ ?_ ?_
    ·rfl
    ·kernel_rfl
    simp only[List.map_cons,List.map_nil]
    refine OpGives.val (w':=W) ?_ ⟨NewMem.refl _,rfl⟩
    go_simp
    try with_reducible rfl
   case s2=>
    intro g W hSW hd
    try simp only[Nat.zero_add,Nat.reduceAdd]at hd ⊢
    have h1:g 1=_:=hd 1 (by decide) (by kernel_rfl)
    with_reducible refine OpGives.pre_reads [(33,1)] 45 ?_ ?_ ?_
    ·rfl
    ·kernel_rfl
    simp only[List.map_cons,List.map_nil]
    refine OpGives.val (w':=W) ?_ ⟨NewMem.refl _,rfl⟩
    go_simp
    try with_reducible rfl
   case s3=>
    intro g W hSW hd
    try simp only[Nat.zero_add,Nat.reduceAdd]at hd ⊢
    have h2:g 2=_:=hd 2 (by decide) (by kernel_rfl)
    with_reducible refine OpGives.pre_reads [(34,2)] 45 ?_ ?_ ?_
    ·rfl
    ·kernel_rfl
    simp only[List.map_cons,List.map_nil]
    refine OpGives.val (w':=W) ?_ ⟨NewMem.refl _,rfl⟩
    go_simp
    try with_reducible rfl
   case s4=>
    intro g W hSW hd
    try simp only[Nat.zero_add,Nat.reduceAdd]at hd ⊢
    have h3:g 3=_:=hd 3 (by decide) (by kernel_rfl)
    with_reducible refine OpGives.pre_reads [(35,3)] 45 ?_ ?_ ?_
    ·rfl
    ·kernel_rfl
    simp only[List.map_cons,List.map_nil]
    have c1:=(ShelfAt.ofM (HSP.out.grown hSW)).c1;refine OpGives.val (w':=W) ?_ ⟨NewMem.refl _,rfl⟩;go_simp
   case s5=>
    intro g W hSW hd
    try simp only[Nat.zero_add,Nat.reduceAdd]at hd ⊢
    with_reducible refine OpGives.pre_reads [] 45 ?_ ?_ ?_
    ·rfl
    ·kernel_rfl
    simp only[List.map_cons,List.map_nil]
    refine OpGives.val (w':=W) ?_ ⟨NewMem.refl _,rfl⟩
    go_simp
    try with_reducible rfl
   case s6=>
    intro g W hSW hd
    try simp only[Nat.zero_add,Nat.reduceAdd]at hd ⊢
    have h5:g 5=_:=hd 5 (by decide) (by kernel_rfl)
    with_reducible refine OpGives.pre_reads [(37,5)] 45 ?_ ?_ ?_
    ·rfl
    ·kernel_rfl
    simp only[List.map_cons,List.map_nil]
    refine OpGives.val (w':=W) ?_ ⟨NewMem.refl _,rfl⟩
    go_simp
    try with_reducible rfl
   case s7=>
    intro g W hSW hd
    try simp only[Nat.zero_add,Nat.reduceAdd]at hd ⊢
    have h6:g 6=_:=hd 6 (by decide) (by kernel_rfl)
    with_reducible refine OpGives.pre_reads [(38,6)] 45 ?_ ?_ ?_
    ·rfl
    ·kernel_rfl
    simp only[List.map_cons,List.map_nil]
    refine OpGives.val (w':=W) ?_ ⟨NewMem.refl _,rfl⟩
    go_simp
    try with_reducible rfl
   case s8=>
    intro g W hSW hd
    try simp only[Nat.zero_add,Nat.reduceAdd]at hd ⊢
    have h7:g 7=_:=hd 7 (by decide) (by kernel_rfl)
    with_reducible refine OpGives.pre_reads [(39,7)] 45 ?_ ?_ ?_
    ·rfl
    ·kernel_rfl
    simp only[List.map_cons,List.map_nil]
    have c3:=(ShelfAt.ofM (HSP.out.grown hSW)).c3;refine OpGives.val (w':=W) ?_ ⟨NewMem.refl _,rfl⟩;go_simp
   case s9=>
    intro g W hSW hd
    try simp only[Nat.zero_add,Nat.reduceAdd]at hd ⊢
    have h4:g 4=_:=hd 4 (by decide) (by kernel_rfl)
    have h8:g 8=_:=hd 8 (by decide) (by kernel_rfl)
    with_reducible refine OpGives.pre_reads [(36,4),(40,8)] 45 ?_ ?_ ?_
    ·rfl
    ·kernel_rfl
    simp only[List.map_cons,List.map_nil]
    have hcs:¬ c < S.sure:=(by omega);refine OpGives.val (w':=W) ?_ ⟨NewMem.refl _,rfl⟩;go_simp
   case s10=>
    intro g W hSW hd
    try simp only[Nat.zero_add,Nat.reduceAdd]at hd ⊢
    have h0:g 0=_:=hd 0 (by decide) (by kernel_rfl)
    with_reducible refine OpGives.pre_reads [(32,0)] 45 ?_ ?_ ?_
    ·rfl
    ·kernel_rfl
    simp only[List.map_cons,List.map_nil]
    refine OpGives.val (w':=W) ?_ ⟨NewMem.refl _,rfl⟩
    go_simp
    try with_reducible rfl
   case s11=>
    intro g W hSW hd
    try simp only[Nat.zero_add,Nat.reduceAdd]at hd ⊢
    have h10:g 10=_:=hd 10 (by decide) (by kernel_rfl)
    with_reducible refine OpGives.pre_reads [(42,10)] 45 ?_ ?_ ?_
    ·rfl
    ·kernel_rfl
    simp only[List.map_cons,List.map_nil]
    refine OpGives.val (w':=W) ?_ ⟨NewMem.refl _,rfl⟩
    go_simp
    try with_reducible rfl
   case hS=>exact fun a c h k=>NewMem.trans h k
   case h0=>exact bdN' (n:=1) (Below.refl _ _)
   case fin=>
    intro u W' hSW hf
    have h9:u 9=_:=hf 9 (Nat.lt_of_lt_of_eq (by decide:9 < 12) rfl)
    have h11:u 11=_:=hf 11 (Nat.lt_of_lt_of_eq (by decide:11 < 12) rfl)
    clear hf
    generalize hF:Ord.pre _ _ u _=F
    rw[Ord.pre_lit [some 32,some 33,some 34,some 35,some 36,some 37,some 38,some 39,some 40,some 41,some 42,some 43]
     (by kernel_rfl)]at hF
    simp only[Ord.puts,Nat.zero_add,Nat.reduceAdd]at hF
    subst hF
    rw[h9,h11]
    have hsp:=HSP.out.grown hSW
    have HFIN:=Lib.hid (HD.out _ hsp)
    have c1:=(ShelfAt.ofM hsp).c1
    have f1:=(ShelfAt.ofM hsp).free 1
    clear hsp h9 h11
    refine any_one (i:=12) (by kernel_rfl) (wpOp_skip (w':=W'.setCell ⟨sb,1,none⟩ (.slice A S.sure c)) rfl rfl (by go_simp) ?_)
    refine wpAny_done (by kernel_rfl) ?_ _
    simp only[List.getElem_toArray,List.getElem_cons_succ,List.getElem_cons_zero]
    clear c1 f1
    generalize W'.setCell ⟨sb,1,none⟩ (.slice A S.sure c)=W6 at HFIN ⊢
    go_frame
    go_wp2_with fail
    go_ret
    exact⟨_,rfl,HFIN.out⟩
end
end Go.Proofs.YtlmabbigfdbmbaaGreatDoor.Shelf
namespace Go.Proofs.YtlmabbigfdbmbaaGreatDoor.PShelfNil
open Go.RowKit Go.Proofs.YtlmabbigfdbmbaaGreatDoor.Ord Go.Proofs.YtlmabbigfdbmbaaGreatDoor.Obj Go.Proofs.YtlmabbigfdbmbaaGreatDoorW.PrintWords Go.Proofs.YtlmabbigfdbmbaaGreatDoorW.PrintLast Go.Proofs.YtlmabbigfdbmbaaGreatDoorW.PrintMore
attribute [local irreducible] OpGives
theorem deepL_append:∀ (l m:List S32),deepL (l++m)=max (deepL l) (deepL m)
 | [],m=>by rw[List.nil_append,deepL];omega
 | x :: l,m=>by rw[List.cons_append,deepL,deepL,deepL_append l m];omega
theorem deepL_take{l:List S32}{i:Nat}{x:S32}(h:l[i]? = some x):deepL (l.take (i+1))=max (deepL (l.take i)) (deepS x):=by
 rw[List.take_add_one,h,Option.toList_some,deepL_append,deepL,deepL];omega
theorem deepL_mem:∀ {l:List S32} {x:S32},x∈l→deepS x≤deepL l
 | y :: l,x,h=>by
  rw[deepL]
  rcases List.mem_cons.1 h with rfl | h
  ·omega
  ·have:=deepL_mem h;omega
set_option maxHeartbeats 8000000 in
set_option maxRecDepth 100000 in
theorem depth_calls:∀ (m:Nat) (x:S32),SizeOf.sizeOf x < m→deepS x≤1000000→∀ (A:Option Addr) (c:Nat) (w:World),Kd.C k32 w A x.f3.length x.f3→
  Calls Tryz.prog 61 #[.agg #[.int .i64 x.f0,.int .i64 x.f1,.string x.f2,.slice A x.f3.length c]] w fun e w'=>e = .returned (.int .i64 (deepS x:Int))∧Below w.heap.size w w'
 | 0,x,h,hd,A,c,w,hA=>by omega
 | m+1,x,h,hd,A,c,w,hA=>by
  have HIH:=Lib.hid (fun y h' hd A c w=>depth_calls m y h' hd A c w)
  obtain⟨k,n,s,l⟩:=x
  simp only at hA ⊢
  rw[deepS]at hd ⊢
  obtain⟨W1,hW1⟩:∃ W1,W1=w.alloc (.cells #[.int .i64 k,.int .i64 n,.string s,.slice A l.length c] 32):=⟨_,rfl⟩
  have hn1:Below w.heap.size w W1:=by rw[hW1];exact(Below.refl _ _).alloc (Nat.le_refl _) _
  have hg1:W1.heap[w.heap.size]? = some (.cells #[.int .i64 k,.int .i64 n,.string s,.slice A l.length c] 32 (0,0)):=by rw[hW1];exact alloc_lastV _ _
  obtain⟨⟨b0,b1,b2,b3⟩,_⟩:=box4 hg1
  have HN1:=Lib.hid hn1
  have HA:=Lib.hid (Kd.C_below hA hn1)
  have hmx:=hA.2.1
  rw[hW1]at b0 b1 b2 b3
  have HW1:=Lib.hid hW1
  have HD:=Lib.hid hd
  clear hW1 hn1 hg1 hA hd
  go_enter Tryz.func61,Tryz.ntmps61
  go_wp2_with fail
  rw[← HW1.out]
  clear b0 b1 b2 b3
  go_loopw [3,9] (fun d v wr=>∃ i:Nat,v = .int .i64 (i:Int)∧d = .int .i64 (deepL (l.take i):Int)∧i≤l.length∧Below W1.heap.size W1 wr) (fun _ v _=>l.length - (intOf v).toNat)
  case atStart=>exact⟨0,rfl,rfl,Nat.zero_le _,Below.refl _ _⟩
  case round=>
   obtain⟨i,rfl,rfl,hi,hbe⟩:=hrel
   have HBE:=Lib.hid hbe
   by_cases hil:i < l.length
   ·obtain⟨ad,A3,c3,rfl,c0,c1,c2,c3',l3,g3⟩:=at_T32 (Kd.C_below HA.out hbe) (i:Int) (by omega) (by omega)
    obtain⟨x,hx⟩:∃ x,l[i]? = some x:=⟨_,List.getElem?_eq_getElem hil⟩
    have hrd:rd_T32 l (i:Int)=x:=by unfold rd_T32;rw[Int.toNat_natCast,List.getD_eq_getElem?_getD,hx];rfl
    rw[hrd]at c0 c1 c2 c3' l3 g3
    rw[Int.toNat_natCast]at c0 c1 c2 c3'
    have hsz:SizeOf.sizeOf x < m:=by
     have:=List.sizeOf_lt_of_mem (List.mem_of_getElem? hx)
     simp at h;omega
    have hdx:deepS x≤1000000:=by have:=deepL_mem (List.mem_of_getElem? hx);have:=HD.out;omega
    obtain⟨W3,hW3⟩:∃ W3,W3=wr.alloc (.cells #[.int .i64 x.f0,.int .i64 x.f1,.string x.f2,.slice A3 x.f3.length c3] 32):=⟨_,rfl⟩
    have hn3:Below wr.heap.size wr W3:=by rw[hW3];exact(Below.refl _ _).alloc (Nat.le_refl _) _
    have hg3:W3.heap[wr.heap.size]? = some (.cells #[.int .i64 x.f0,.int .i64 x.f1,.string x.f2,.slice A3 x.f3.length c3] 32 (0,0)):=by rw[hW3];exact alloc_lastV _ _
    have HCALL:=Lib.hid (HIH.out x hsz hdx A3 c3 W3 (Kd.C_below g3 hn3))
    have HN3:=Lib.hid hn3
    have HST:=Lib.hid (deepL_take hx)
    obtain⟨dd,hdd⟩:∃ dd,dd=deepL (l.take i):=⟨_,rfl⟩
    rw[← hdd]at HST ⊢
    have hmm:max (dd:Int) (deepS x:Int)=((max dd (deepS x):Nat):Int):=by omega
    obtain⟨⟨d0,d1,d2,d3⟩,_⟩:=box4 hg3
    rw[hW3]at d0 d1 d2 d3
    have HW3:=Lib.hid hW3
    clear hbe hrd g3 hx hsz hn3 hg3 hW3 hdd hdx
    go_wp2_with fail
    rw[← HW3.out]
    clear d0 d1 d2 d3 c0 c1 c2 c3'
    refine HCALL.out.mono ?_
    rintro e W4 ⟨rfl,hb4⟩
    have HB4:=Lib.hid (HBE.out.trans ((HN3.out.trans (hb4.mono HN3.out.size)).mono HBE.out.size))
    clear hb4
    go_wp2_with fail
    go_roundw
    case rel=>exact⟨i+1,by go_num,by rw[HST.out,← hmm],hil,HB4.out⟩
    case measure=>simp[intOf];omega
   ·have hie:i=l.length:=by omega
    rw[hie,List.take_length]
    have hw:wrap64 ((deepL l:Int)+1)=((deepL l+1:Nat):Int):=by have:=HD.out;unfold wrap64;omega
    subst hie
    clear hbe
    go_wp2_with fail
    go_ret
    exact⟨by show Ending.returned (Value.int .i64 (wrap64 ((deepL l:Int)+1)))=_;rw[hw],HN1.out.trans (HBE.out.mono HN1.out.size)⟩
end Go.Proofs.YtlmabbigfdbmbaaGreatDoor.PShelfNil
namespace Go.Proofs.YtlmabbigfdbmbaaGreatDoor.PShelfNil
open Go.RowKit Go.Proofs.YtlmabbigfdbmbaaGreatDoor.Ord Go.Proofs.YtlmabbigfdbmbaaGreatDoor.Obj Go.Proofs.YtlmabbigfdbmbaaGreatDoorW.PrintWords Go.Proofs.YtlmabbigfdbmbaaGreatDoorW.PrintLast Go.Proofs.YtlmabbigfdbmbaaGreatDoorW.PrintMore Go.Proofs.YtlmabbigfdbmbaaGreatDoor.Shelf
attribute [local irreducible] OpGives
attribute [local go_sem] rdl_const rdl_func rdl_global rdl_nil rdl_cons
def cellK(x:S32):Value→World→Prop:=fun u W=>∃ A c,u = .agg #[.int .i64 x.f0,.int .i64 x.f1,.string x.f2,.slice A x.f3.length c]∧x.f3.length≤c∧Kd.C k32 W A x.f3.length x.f3
theorem cellK_below{x:S32}{u:Value}{W W':World}(h:cellK x u W)(hb:Below W.heap.size W W'):cellK x u W':=by
 obtain⟨A,c,e,hc,hC⟩:=h
 exact⟨A,c,e,hc,Kd.C_below hC hb⟩
theorem cellK_F{base:Nat}{x:S32}{u:Value}{W:World}(h:cellF base x u W):cellK x u W:=by
 obtain⟨v3,e,hR⟩:=h
 obtain⟨A,c,e3,hc,hC⟩:=Kd.R_reads hR
 exact⟨A,c,by rw[e,e3],hc,hC⟩
theorem cellK_K{x:S32}{u:Value}{W:World}(h:cellK x u W):(k32).K W x u.cells.toList∧u.cells.size=4:=by
 obtain⟨A,c,e,hc,hC⟩:=h
 subst e
 exact⟨k32_mk W x hc hC,rfl⟩
theorem addr0(g m:Nat):(⟨g,0,none⟩:Addr).add m=⟨g,m,none⟩:=by
 by_cases h:m=0
 ·subst h;rfl
 ·simp[Addr.add,h]
def litK(xs:List S32):Value→World→Prop:=fun u W=>∃ g,u = .slice (some ⟨g,0,none⟩) xs.length xs.length∧Kd.C k32 W (some ⟨g,0,none⟩) xs.length xs
theorem litK_below{xs:List S32}{u:Value}{W W':World}(h:litK xs u W)(hb:Below W.heap.size W W'):litK xs u W':=by
 obtain⟨g,e,hC⟩:=h
 exact⟨g,e,Kd.C_below hC hb⟩
theorem litK_2{W:World}{x y:S32}{u1 u2:Value}(h1:cellK x u1 W)(h2:cellK y u2 W) :
  litK [x,y] (.slice (some ⟨W.heap.size,0,none⟩) 2 2) (W.alloc (.cells ([u1,u2].flatMap fun v=>v.cells.toList).toArray 32)):=by
 obtain⟨k1,s1⟩:=cellK_K h1
 obtain⟨k2,s2⟩:=cellK_K h2
 have hb:Below W.heap.size W (W.alloc (.cells ([u1,u2].flatMap fun v=>v.cells.toList).toArray 32)):=(Below.refl _ _).alloc (Nat.le_refl _) _
 have hg:=alloc_lastV W (.cells ([u1,u2].flatMap fun v=>v.cells.toList).toArray 32)
 have l1:u1.cells.toList.length=4:=by simpa using s1
 have l2:u2.cells.toList.length=4:=by simpa using s2
 refine⟨_,rfl,rfl,(by show 2≤9223372036854775807;decide),fun _=>⟨_,rfl,fun j p hj=>?_⟩⟩
 have hcell:∀ m u,(u1.cells.toList++u2.cells.toList)[m]? = some u→(W.alloc (.cells ([u1,u2].flatMap fun v=>v.cells.toList).toArray 32)).cell? ⟨W.heap.size,m,none⟩=some u:=fun m u hu=>by
  rw[Lib.cell_of_heap hg]
  simpa using hu
 match j,hj with
 | 0,hj=>
  simp at hj;subst hj
  refine⟨_,l1,(k32).K_below hb k1,fun i u hu=>?_⟩
  have hi:i < 4:=by rw[← l1];exact(List.getElem?_eq_some_iff.1 hu).1
  have:=hcell i u (by rw[List.getElem?_append_left (by omega)];exact hu)
  show World.cell? _ ((⟨W.heap.size,0,none⟩:Addr).add (0 * 4+i))=_
  rw[addr0,Nat.zero_mul,Nat.zero_add];exact this
 | 1,hj=>
  simp at hj;subst hj
  refine⟨_,l2,(k32).K_below hb k2,fun i u hu=>?_⟩
  have:=hcell (4+i) u (by rw[List.getElem?_append_right (by omega),l1,Nat.add_sub_cancel_left];exact hu)
  show World.cell? _ ((⟨W.heap.size,0,none⟩:Addr).add (1 * 4+i))=_
  rw[addr0,Nat.one_mul];exact this
 | j+2,hj=>simp at hj
theorem litK_run2{W:World}{x y:S32}{u1 u2:Value}(h1:cellK x u1 W)(h2:cellK y u2 W)(parts:Array (Nat × Value))(hp:parts.toList = [(0,u1),(1,u2)]) :
  (Instr.buildSlice 30 2 parts).run Tryz.prog W = .ok (.slice (some ⟨W.heap.size,0,none⟩) 2 2) (W.alloc (.cells ([u1,u2].flatMap fun v=>v.cells.toList).toArray 32)):=
 lit_run W [u1,u2] 2 parts (by rw[hp];rfl) (by decide) rfl (by decide) (by
  intro v hv
  simp only[List.mem_cons,List.not_mem_nil,or_false]at hv
  rcases hv with rfl | rfl
  ·exact(cellK_K h1).2
  ·exact(cellK_K h2).2)
theorem List_K{xs:List S32}{u:Value}{W:World}(h:litK xs u W)(hl:xs.length≤1000000):Calls Tryz.prog 94 #[u] W fun e W'=>∃ u',e = .returned u'∧cellK (listC xs) u' W'∧Below W.heap.size W W':=by
 obtain⟨g,rfl,hC⟩:=h
 exact(List_calls xs _ _ W hC (Nat.le_refl _) hl).mono fun e W' ⟨A,c,he,hC',hc,hb⟩=>⟨_,he,⟨A,c,rfl,hc,hC'⟩,hb⟩
def freshC(S:SS):List S32:=(S.things.drop S.sure).map fun x=>textC x.2
def batchX(S:SS)(c:S32):S32:=listC [c,listC (freshC S)]
section
variable{B:Nat}{w W:World}{l:List Drum.Thing}{sb tb pb:Nat}{v:Value}{S:SS}{f:ByteArray→Nat}
set_option maxHeartbeats 16000000 in
set_option maxRecDepth 100000 in
theorem sbatch_at(h:ShelfAt W sb tb pb v S f)(ok:S.ok)(hu:S.ups≤1000000)(c:S32)(Ac:Option Addr)(cc:Nat)(hC:Kd.C k32 W Ac c.f3.length c.f3)(hcc:c.f3.length≤cc)(r:Int)(hwf:wfS (batchX S c))(hr:checkR (batchX S c)=r)(hlen:r=0→(encS (batchX S c)).length+16≤140737488355328) :
  Calls Tryz.prog 63 #[.pointer (some ⟨sb,0,none⟩),.agg #[.int .i64 c.f0,.int .i64 c.f1,.string c.f2,.slice Ac c.f3.length cc]] W fun e W'=>e = .returned (.string ⟨(putB r (batchX S c)).toArray⟩)∧Below W.heap.size W W':=by
 obtain⟨A,cp,rfl⟩:=h.slice
 obtain⟨W1,hW1⟩:∃ W1,W1=W.alloc (.cells #[.int .i64 c.f0,.int .i64 c.f1,.string c.f2,.slice Ac c.f3.length cc] 32):=⟨_,rfl⟩
 have hn1:Below W.heap.size W W1:=by rw[hW1];exact(Below.refl _ _).alloc (Nat.le_refl _) _
 have hg1:W1.heap[W.heap.size]? = some (.cells #[.int .i64 c.f0,.int .i64 c.f1,.string c.f2,.slice Ac c.f3.length cc] 32 (0,0)):=by rw[hW1];exact alloc_lastV _ _
 have hle:=ok.2.1
 have hle2:=ok.2.2.1
 have hS1:=h.new hn1
 have c1:=fun n=>(hS1.new (Base.bdN' (n:=n) (Below.refl _ _))).c1
 have c3:=fun n=>(hS1.new (Base.bdN' (n:=n) (Below.refl _ _))).c3
 have hcap:S.things.length≤cp:=by
  rcases h.row.2 with ⟨e,h0⟩ | ⟨g,cp,cur,e,_,_,h1,_⟩
  ·omega
  ·injection e with e1 e2 e3;omega
 have hsl:0≤(S.sure:Int)∧(S.sure:Int)≤(S.things.length:Int):=by omega
 have hsl2:(S.things.length:Int)≤(cp:Int):=by omega
 have hfl:(freshC S).length=S.things.length - S.sure:=by unfold freshC;rw[List.length_map,List.length_drop]
 have hput:=fun W' (A':Option Addr) (c':Nat) (hC':Kd.C k32 W' A' (batchX S c).f3.length (batchX S c).f3) (hc':(batchX S c).f3.length≤c')=>Put_calls (batchX S c) A' c' r W' hC' hc' hwf hr hlen
 have HPUT:=Lib.hid hput
 have HS1:=Lib.hid hS1
 have HN1:=Lib.hid hn1
 have HG1:=Lib.hid hg1
 have HC1:=Lib.hid (And.intro hcc (Kd.C_below hC hn1))
 have HFL:=Lib.hid hfl
 have HBD:=Lib.hid (And.intro hle2 hu)
 have HW1:=Lib.hid hW1
 clear h ok hu hC hcc hwf hr hlen hput hS1 hn1 hfl hg1 hW1 hle2
 go_enter Tryz.func63,Tryz.ntmps63
 go_wp2_with fail
 rw[← HW1.out]
 refine wp_region_quiet_lit (by kernel_rfl) (by kernel_rfl) ?_
 repeat (quiet_step (fail))
 refine wpQuiet_nil ?_
 intro _ hw'
 obtain⟨nq,hw''⟩:=hw'
 subst hw''
 obtain⟨Y,hY⟩:∃ Y,Y=(if cp=S.sure then A else A.map (fun x=>x.add (S.sure * 2))):=⟨_,rfl⟩
 rw[← hY]
 have HY:=Lib.hid hY
 have HB0:=Lib.hid (show Below W1.heap.size W1 (W1.drewN nq)from Base.bdN' (Below.refl _ _))
 clear hY c1 c3 hsl hsl2
 generalize W1.drewN nq=W0 at HB0 ⊢
 go_wp2_with fail
 go_loopw [5,20] (fun u i wr=>∃ j:Nat,i = .int .i64 (j:Int)∧j≤S.things.length - S.sure∧rC wr W1.heap.size u ((freshC S).take j)∧Below W1.heap.size W1 wr) (fun _ i _=>S.things.length - S.sure - (intOf i).toNat)
 case atStart=>exact⟨0,rfl,Nat.zero_le _,by rw[List.take_zero];exact Kd.R_nil _ _ _ _ _,HB0.out⟩
 case round=>
  obtain⟨i,rfl,hi,hrow,hbe⟩:=hrel
  have HROW:=Lib.hid hrow
  have HBE:=Lib.hid hbe
  by_cases hil:i < S.things.length - S.sure
  ·obtain⟨x,hx⟩:∃ x,S.things[S.sure+i]? = some x:=⟨_,List.getElem?_eq_getElem (by omega)⟩
   obtain⟨g,hA,e0,e1⟩:=(HS1.out.new hbe).thing hx
   have hYg:Y=some ⟨g,S.sure * 2,none⟩:=by
    rw[HY.out,if_neg (by omega),hA]
    simp[Addr.add]
    omega
   subst hYg
   clear hA
   rw[show(S.sure+i) * 2=S.sure * 2+i * 2 by omega]at e0 e1
   obtain⟨W3,hW3⟩:∃ W3,W3=wr.alloc (.cells #[.string x.1,.string x.2] 108):=⟨_,rfl⟩
   have hn3:Below wr.heap.size wr W3:=by rw[hW3];exact(Below.refl _ _).alloc (Nat.le_refl _) _
   have hg3:W3.heap[wr.heap.size]? = some (.cells #[.string x.1,.string x.2] 108 (0,0)):=by rw[hW3];exact alloc_lastV _ _
   obtain⟨k0,k1⟩:=box2 hg3
   have HN3:=Lib.hid hn3
   have HX:=Lib.hid (show(freshC S).take (i+1)=(freshC S).take i ++ [textC x.2]by
    unfold freshC
    rw[List.take_add_one,List.getElem?_map,List.getElem?_drop,hx];rfl)
   have hlen:((freshC S).take i).length≤1000000:=by rw[List.length_take,HFL.out];have:=HBD.out;omega
   have HLEN:=Lib.hid hlen
   have hbi:0≤(i:Int)∧(i:Int) < ((S.things.length - S.sure:Nat):Int):=by omega
   have hw1:wrap64 ((i:Int)+1)=(i:Int)+1:=by have:=HBD.out;unfold wrap64;omega
   rw[hW3]at k0 k1
   have HW3:=Lib.hid hW3
   clear hrow hbe hW3 hn3 hg3 hx hlen
   go_wp2_with fail
   rw[← HW3.out]
   clear k0 k1 e0 e1
   refine(text_R x.2 0 W3).mono ?_
   rintro e W4 ⟨rfl,hb4⟩
   have hb4':=HN3.out.trans (hb4.mono HN3.out.size)
   have hF:=text_F x.2 wr.heap.size W4
   have hlit:=litC_of (lo:=wr.heap.size) (repsM_1 hF) hb4'.size
   have hrW:=Kd.R_below HROW.out (hb4'.trans ((Below.refl W4.heap.size W4).alloc (Nat.le_refl _) (.cells ([Value.agg #[.int .i64 2,.int .i64 0,.string x.2,.slice none 0 0]].flatMap fun v=>v.cells.toList).toArray 32) |>.mono hb4'.size))
   obtain⟨v8,W8,hr8,hg8,hR8⟩:=append_lit (b0:=W1.heap.size) (lo:=wr.heap.size) hrW (fun k hk=>rC_own HROW.out k hk) HBE.out.size hlit HLEN.out 30
   have hb8:Below W1.heap.size W1 W8:=grown_below hrW hg8 ((HBE.out.trans (hb4'.mono HBE.out.size)).trans (((Below.refl W4.heap.size W4).alloc (Nat.le_refl _) _).mono (Nat.le_trans HBE.out.size hb4'.size))) (by have:=HBE.out.size;have:=hb4'.size;simp;omega)
   rw[← HX.out]at hR8
   have HR8:=Lib.hid hR8
   have HB8:=Lib.hid hb8
   have hr8':(Builtin.append_ #[30,30] 30 #[u5,.slice (some ⟨W4.heap.size,0,none⟩) 1 1]).run Tryz.prog (W4.alloc (.cells #[.int .i64 2,.int .i64 0,.string x.2,.slice none 0 0] 32)) = .ok v8 W8:=hr8
   have HRUN:=Lib.hid hr8'
   clear hr8 hr8' hg8 hR8 hb8 hrW hlit hF hb4' hb4
   go_wp2_with (at_builtin;refine wpList_value rfl (exec_append _ _ 30 rfl HRUN.out) ?_)
   rw[hw1]
   exact⟨⟨i+1,by go_num,by omega,HR8.out,HB8.out⟩,by simp[intOf];omega⟩
  ·have hie:i=S.things.length - S.sure:=by omega
   subst hie
   obtain⟨R,hR⟩:∃ R,R=(⟨(putB r (batchX S c)).toArray⟩:ByteArray):=⟨_,rfl⟩
   have hfull:(freshC S).take (S.things.length - S.sure)=freshC S:=by rw[← HFL.out,List.take_length]
   rw[hfull]at HROW
   have hcl:∀ W',Below wr.heap.size wr W'→W'.heap[W.heap.size]? = some (.cells #[.int .i64 c.f0,.int .i64 c.f1,.string c.f2,.slice Ac c.f3.length cc] 32 (0,0))∧rC W' W1.heap.size u5 (freshC S)∧cellK c (.agg #[.int .i64 c.f0,.int .i64 c.f1,.string c.f2,.slice Ac c.f3.length cc]) W'∧W1.heap.size≤W'.heap.size:=fun W' hW'=>by
    have hb:Below W1.heap.size W1 W':=HBE.out.trans (hW'.mono HBE.out.size)
    exact⟨(hb.block _ (Array.getElem?_eq_some_iff.1 HG1.out).1).trans HG1.out,rC_below HROW.out hW',⟨_,_,rfl,HC1.out.1,Kd.C_below HC1.out.2 hb⟩,hb.size⟩
   have HCL:=Lib.hid hcl
   have hfl:(freshC S).length≤1000000:=by rw[HFL.out];have:=HBD.out;omega
   have HFL2:=Lib.hid hfl
   have HR:=Lib.hid hR
   clear hcl hfl hrow hbe hR hfull
   go_wp2_with fail
   refine' wp_region_factsM (S:=(fun _ W'=>Below wr.heap.size wr W')) (fun _ W W'=>Below W.heap.size W W') [eqM (.agg #[.int .i64 c.f0,.int .i64 c.f1,.string c.f2,.slice Ac c.f3.length cc]),eqM u5,cellF W1.heap.size (listC (freshC S)),litK [c,listC (freshC S)],cellK (batchX S c),eqM (.tuple #[.string R,.int .i64 r]),eqM _,eqM _,eqM _,eqM _,eqM _] (by kernel_rfl) (by kernel_rfl) ?hst ?h0 (Ord.stepsM_cons ?s0 (Ord.stepsM_cons ?s1 (Ord.stepsM_cons ?s2 (Ord.stepsM_cons ?s3 (Ord.stepsM_cons ?s4 (Ord.stepsM_cons ?s5 (Ord.stepsM_cons ?s6 (Ord.stepsM_cons ?s7 (Ord.stepsM_cons ?s8 (Ord.stepsM_cons ?s9 (Ord.stepsM_cons ?s10 (Ord.stepsM_nil)))))))))))) ?fin
   case s0=>
    intro g W L hL hSW hd
    try simp only[Nat.zero_add,Nat.reduceAdd]at hd ⊢
    with_reducible refine OpGives.pre_reads [] 41 ?_ ?_ ?_
    ·rfl
    ·kernel_rfl
    simp only[List.map_cons,List.map_nil]
    obtain⟨⟨z0,z1,z2,z3⟩,_⟩:=box4 (HCL.out W hSW).1;refine OpGives.val (w':=W) ?_ ⟨Below.refl _ _,rfl,hSW⟩;go_simp
   case s1=>
    intro g W L hL hSW hd
    try simp only[Nat.zero_add,Nat.reduceAdd]at hd ⊢
    with_reducible refine OpGives.pre_reads [] 41 ?_ ?_ ?_
    ·rfl
    ·kernel_rfl
    simp only[List.map_cons,List.map_nil]
    refine OpGives.val (w':=W) ?_ ⟨Below.refl _ _,rfl,hSW⟩
    go_simp
    try with_reducible rfl
   case s2=>
    intro g W L hL hSW hd
    try simp only[Nat.zero_add,Nat.reduceAdd]at hd ⊢
    have h1:g 1=_:=hd 1 (by decide) (by kernel_rfl)
    with_reducible refine OpGives.pre_reads [(33,1)] 41 ?_ ?_ ?_
    ·rfl
    ·kernel_rfl
    simp only[List.map_cons,List.map_nil]
    rw[h1];refine OpGives.call (f:=94) (args:=#[u5]) (w':=W) (by go_simp) ((List_own (HCL.out W hSW).2.1 HFL2.out (HCL.out W hSW).2.2.2).mono fun e W' ⟨u,he,hf,hb⟩=>⟨u,he,hb,hf,hSW.trans (hb.mono hSW.size)⟩)
   case s3=>
    intro g W L hL hSW hd
    try simp only[Nat.zero_add,Nat.reduceAdd]at hd ⊢
    have h0:g 0=_:=hd 0 (by decide) (by kernel_rfl)
    have h2:=hd 2 (by decide) (by kernel_rfl)
    change (cellF W1.heap.size (listC (freshC S))) (g 2) W at h2
    with_reducible refine OpGives.pre_reads [(32,0),(34,2)] 41 ?_ ?_ ?_
    ·rfl
    ·kernel_rfl
    simp only[List.map_cons,List.map_nil]
    rw[h0];refine OpGives.val (v:=.slice (some ⟨W.heap.size,0,none⟩) 2 2) (w':=W.alloc (.cells ([.agg #[.int .i64 c.f0,.int .i64 c.f1,.string c.f2,.slice Ac c.f3.length cc],g 2].flatMap fun v=>v.cells.toList).toArray 32)) (exec_buildSlice 30 2 _ rfl (litK_run2 (HCL.out W hSW).2.2.1 (cellK_F h2) _ (by simp[rdl_cons]))) ⟨(Below.refl _ _).alloc (Nat.le_refl _) _,litK_2 (HCL.out W hSW).2.2.1 (cellK_F h2),hSW.alloc hSW.size _⟩
   case s4=>
    intro g W L hL hSW hd
    try simp only[Nat.zero_add,Nat.reduceAdd]at hd ⊢
    have h3:=hd 3 (by decide) (by kernel_rfl)
    change (litK [c,listC (freshC S)]) (g 3) W at h3
    with_reducible refine OpGives.pre_reads [(35,3)] 41 ?_ ?_ ?_
    ·rfl
    ·kernel_rfl
    simp only[List.map_cons,List.map_nil]
    refine OpGives.call (f:=94) (args:=#[g 3]) (w':=W) (by go_simp) ((List_K h3 (by simp)).mono fun e W' ⟨u,he,hf,hb⟩=>⟨u,he,hb,hf,hSW.trans (hb.mono hSW.size)⟩)
   case s5=>
    intro g W L hL hSW hd
    try simp only[Nat.zero_add,Nat.reduceAdd]at hd ⊢
    have h4:=hd 4 (by decide) (by kernel_rfl)
    change (cellK (batchX S c)) (g 4) W at h4
    with_reducible refine OpGives.pre_reads [(36,4)] 41 ?_ ?_ ?_
    ·rfl
    ·kernel_rfl
    simp only[List.map_cons,List.map_nil]
    obtain⟨A4,c4,e4,hc4,hC4⟩:=h4;refine OpGives.call (f:=80) (args:=#[g 4]) (w':=W) (by go_simp) (by rw[e4];exact(HPUT.out W A4 c4 hC4 hc4).mono fun e W' ⟨he,hb⟩=>⟨_,he,hb,(by rw[HR.out];rfl),hSW.trans (hb.mono hSW.size)⟩)
   case s6=>
    intro g W L hL hSW hd
    try simp only[Nat.zero_add,Nat.reduceAdd]at hd ⊢
    have h5:g 5=_:=hd 5 (by decide) (by kernel_rfl)
    with_reducible refine OpGives.pre_reads [(37,5)] 41 ?_ ?_ ?_
    ·rfl
    ·kernel_rfl
    simp only[List.map_cons,List.map_nil]
    refine OpGives.val (w':=W) ?_ ⟨Below.refl _ _,rfl,hSW⟩
    go_simp
    try with_reducible rfl
   case s7=>
    intro g W L hL hSW hd
    try simp only[Nat.zero_add,Nat.reduceAdd]at hd ⊢
    have h6:g 6=_:=hd 6 (by decide) (by kernel_rfl)
    with_reducible refine OpGives.pre_reads [(31,6)] 41 ?_ ?_ ?_
    ·rfl
    ·kernel_rfl
    simp only[List.map_cons,List.map_nil]
    refine OpGives.val (w':=W) ?_ ⟨Below.refl _ _,rfl,hSW⟩
    go_simp
    try with_reducible rfl
   case s8=>
    intro g W L hL hSW hd
    try simp only[Nat.zero_add,Nat.reduceAdd]at hd ⊢
    have h6:g 6=_:=hd 6 (by decide) (by kernel_rfl)
    with_reducible refine OpGives.pre_reads [(31,6)] 41 ?_ ?_ ?_
    ·rfl
    ·kernel_rfl
    simp only[List.map_cons,List.map_nil]
    refine OpGives.val (w':=W) ?_ ⟨Below.refl _ _,rfl,hSW⟩
    go_simp
    try with_reducible rfl
   case s9=>
    intro g W L hL hSW hd
    try simp only[Nat.zero_add,Nat.reduceAdd]at hd ⊢
    have h7:g 7=_:=hd 7 (by decide) (by kernel_rfl)
    with_reducible refine OpGives.pre_reads [(38,7)] 41 ?_ ?_ ?_
    ·rfl
    ·kernel_rfl
    simp only[List.map_cons,List.map_nil]
    refine OpGives.val (w':=W) ?_ ⟨Below.refl _ _,rfl,hSW⟩
    go_simp
    try with_reducible rfl
   case s10=>
    intro g W L hL hSW hd
    try simp only[Nat.zero_add,Nat.reduceAdd]at hd ⊢
    have h8:g 8=_:=hd 8 (by decide) (by kernel_rfl)
    with_reducible refine OpGives.pre_reads [(39,8)] 41 ?_ ?_ ?_
    ·rfl
    ·kernel_rfl
    simp only[List.map_cons,List.map_nil]
    refine OpGives.val (w':=W) ?_ ⟨Below.refl _ _,rfl,hSW⟩
    go_simp
    try with_reducible rfl
   case hst=>
    refine fun i j v w w' _ h hR=>st_of (R:=fun W W'=>Below W.heap.size W W') ?_ i v w w' h hR
    repeat' first
     | exact trivial
     | with_reducible refine StL.eq ?_
     | refine⟨fun v w w' h hR=>cellF_below h hR,?_⟩
     | refine⟨fun v w w' h hR=>litK_below h hR,?_⟩
     | refine⟨fun v w w' h hR=>cellK_below h hR,?_⟩
   case h0=>exact(Below.refl _ _).drew
   case fin=>
    intro v' W' L hL hSW hf
    have h9:v' 9=_:=hf 9 (Nat.lt_of_lt_of_eq (by decide:9 < 11) rfl)
    clear hf
    generalize hF:Ord.pre _ _ v' _=F
    rw[Ord.pre_lit [some 32,some 33,some 34,some 35,some 36,some 37,some 31,some 38,some 39,some 8,some 9]
     (by kernel_rfl)]at hF
    simp only[Ord.puts,Nat.zero_add,Nat.reduceAdd]at hF
    subst hF
    rw[h9]
    have hbw:Below W1.heap.size W1 W':=HBE.out.trans (hSW.mono HBE.out.size)
    have HFIN:=Lib.hid (HN1.out.trans (hbw.mono HN1.out.size))
    clear hbw hSW h9
    refine wpAny_done (by kernel_rfl) ?_ _
    try simp only[List.getElem_toArray,List.getElem_cons_succ,List.getElem_cons_zero]
    go_frame
    go_wp2_with fail
    go_ret
    exact⟨by rw[HR.out];rfl,HFIN.out⟩
end
end Go.Proofs.YtlmabbigfdbmbaaGreatDoor.PShelfNil
namespace Go.Proofs.YtlmabbigfdbmbaaGreatDoor.PShelfNil
open Go.RowKit Go.Proofs.YtlmabbigfdbmbaaGreatDoor.Ord Go.Proofs.YtlmabbigfdbmbaaGreatDoor.Obj Go.Proofs.YtlmabbigfdbmbaaGreatDoorW.PrintWords Go.Proofs.YtlmabbigfdbmbaaGreatDoorW.PrintLast Go.Proofs.YtlmabbigfdbmbaaGreatDoorW.PrintMore Go.Proofs.YtlmabbigfdbmbaaGreatDoor.Shelf
attribute [local irreducible] OpGives
attribute [local go_sem] rdl_const rdl_func rdl_global rdl_nil rdl_cons
theorem R_two{W:World}{base:Nat}{ok:Nat→Prop}{v:Value}{x y:S32}(h:Kd.R k32 32 W base ok v [x,y]) :
  ∃ g cp u1 u2,v = .slice (some ⟨g,0,none⟩) 2 cp∧2≤cp∧base≤g∧(W.cell? ⟨g,0,none⟩=some (.int .i64 x.f0)∧W.cell? ⟨g,1,none⟩=some (.int .i64 x.f1)∧W.cell? ⟨g,2,none⟩=some (.string x.f2)∧W.cell? ⟨g,3,none⟩=some u1)∧
   (W.cell? ⟨g,4,none⟩=some (.int .i64 y.f0)∧W.cell? ⟨g,7,none⟩=some u2)∧Kd.R k32 32 W base ok u1 x.f3∧Kd.R k32 32 W base ok u2 y.f3:=by
 obtain⟨h0,inner,ho,hr⟩:=h
 have hlen:inner.length=8:=ho.1
 have h1:=hr.2 0 x rfl
 have h2:=hr.2 1 y rfl
 obtain⟨u1,e1,r1⟩:=k32_openM h1
 obtain⟨u2,e2,r2⟩:=k32_openM h2
 have hin:inner = [.int .i64 x.f0,.int .i64 x.f1,.string x.f2,u1,.int .i64 y.f0,.int .i64 y.f1,.string y.f2,u2]:=by
  have e1':inner.take 4 = [.int .i64 x.f0,.int .i64 x.f1,.string x.f2,u1]:=by have:=e1;rwa [Nat.zero_mul,List.drop_zero]at this
  have e2':(inner.drop 4).take 4 = [.int .i64 y.f0,.int .i64 y.f1,.string y.f2,u2]:=by have:=e2;rwa [Nat.one_mul]at this
  have e3:(inner.drop 4).take 4=inner.drop 4:=List.take_of_length_le (by rw[List.length_drop];omega)
  rw[e3]at e2'
  rw[← List.take_append_drop 4 inner,e1',e2']
  rfl
 rcases ho.2 with ⟨e,h0⟩ | ⟨g,cp,cur,e,hb,hg,hle,_,hcs,hcur⟩
 ·cases h0
 ·have hcell:∀ j u,inner[j]? = some u→W.cell? ⟨g,j,none⟩=some u:=fun j u hj=>by
   have hj8:j < 8:=by have:=(List.getElem?_eq_some_iff.1 hj).1;omega
   rw[Lib.cell_of_heap hg]
   rw[← hcur,List.getElem?_take_of_lt (by show j < 2 * 4;omega)]at hj
   simpa using hj
  rw[hin]at hcell
  exact⟨g,cp,u1,u2,e,hle,hb,⟨hcell 0 _ rfl,hcell 1 _ rfl,hcell 2 _ rfl,hcell 3 _ rfl⟩,⟨hcell 4 _ rfl,hcell 7 _ rfl⟩,Kd.R_mono r1 (fun k hk=>hk.1),Kd.R_mono r2 (fun k hk=>hk.1)⟩
def LsS(W4:World)(g0:Nat)(a z:Array Value)(x:Bool)(W:World):Prop:=Drum.Mod (fun k=>k=g0) W4 W∧W.heap[g0]? = some (.cells (if x then a else z) 32 (0,0))
theorem mod_cell{G:Nat→Prop}{W W':World}(hm:Drum.Mod G W W'){b o:Nat}{u:Value}(h:W.cell? ⟨b,o,none⟩=some u)(hb:¬ G b):W'.cell? ⟨b,o,none⟩=some u:=by
 have hlt:=World.block_lt_of_cell? W _ h
 have:=hm.block b hlt hb
 simpa [World.cell?,this] using h
theorem put4_mod(W:World)(g:Nat)(a0 a1 a2 a3:Value):Drum.Mod (fun k=>k=g) W (put4 W g a0 a1 a2 a3):=⟨rfl,rfl,rfl,by rw[put4_size];exact Nat.le_refl _,fun k _ hk=>put4_far hk _ _ _ _⟩
theorem lists_results:(Tryz.f89).results=#[.cell 2 32,.tmp 3,.tmp 4]:=Tryz.results89
theorem results_lists(tmps:Array Value)(w:World)(c:Nat)(a0 a1 a2 a3 b d:Value)(h2:tmps.getD 2 undef = .pointer (some ⟨c,0,none⟩))(h3:tmps.getD 3 undef=b)(h4:tmps.getD 4 undef=d)
  (hc:w.heap[c]? = some (.cells #[a0,a1,a2,a3] 32 (0,0))) :
  (results Tryz.f89 tmps).run Tryz.prog w = .ok (.tuple #[.agg #[a0,a1,a2,a3],b,d]) w:=by
 have h2':tmps[2]?.getD undef = .pointer (some ⟨c,0,none⟩):=by simpa using h2
 have h3':tmps[3]?.getD undef=b:=by simpa using h3
 have h4':tmps[4]?.getD undef=d:=by simpa using h4
 obtain⟨⟨k0,k1,k2,k3⟩,_⟩:=box4 hc
 simp[results,lists_results,h2',h3',h4',asAddr,k0,k1,k2,k3,go_sem]
set_option maxHeartbeats 8000000 in
set_option maxRecDepth 100000 in
theorem lists_calls(r:ByteArray)(c:S32)(l:List S32)(hr:takeR r=(listC [c,listC l],0))(hs:r.size≤140737488355328)(hd:deepS c≤14)(w:World) :
  Calls Tryz.prog 89 #[.string r] w fun e w'=>∃ u1 u2,e = .returned (.tuple #[.agg #[.int .i64 c.f0,.int .i64 c.f1,.string c.f2,u1],u2,.bool true])∧rC w' w.heap.size u1 c.f3∧rC w' w.heap.size u2 l∧Below w.heap.size w w':=by
 obtain⟨W1,hW1⟩:∃ W1,W1=w.alloc (.cells #[.int .i64 0,.int .i64 0,.string (⟨#[]⟩:ByteArray),.slice none 0 0] 32):=⟨_,rfl⟩
 have hn1:Below w.heap.size w W1:=by rw[hW1];exact(Below.refl _ _).alloc (Nat.le_refl _) _
 have hg1:W1.heap[w.heap.size]? = some (.cells #[.int .i64 0,.int .i64 0,.string (⟨#[]⟩:ByteArray),.slice none 0 0] 32 (0,0)):=by rw[hW1];exact alloc_lastV _ _
 have hs1:W1.heap.size=w.heap.size+1:=by rw[hW1];simp
 have htk:=Take_calls r W1 hs
 rw[hr]at htk
 have HTK:=Lib.hid htk
 have HD:=Lib.hid hd
 have HN1:=Lib.hid hn1
 have HG1:=Lib.hid hg1
 have HS1:=Lib.hid hs1
 have HW1:=Lib.hid hW1
 clear hr hs hd hn1 hg1 hs1 hW1 htk
 go_enter Tryz.func89,Tryz.ntmps89
 go_wp2_with fail
 rw[← HW1.out]
 refine HTK.out.mono ?_
 rintro e W2 ⟨v3,rfl,hR,hb2⟩
 unfold listC at hR ⊢
 simp only at hR ⊢
 obtain⟨g,cp,u1,u2,rfl,hcp,hbg,⟨y0,y1,y2,y3⟩,⟨y4,y7⟩,r1,r2⟩:=R_two hR
 obtain⟨A1,c1,rfl,hl1,hC1⟩:=Kd.R_reads r1
 simp only at y4 r2
 obtain⟨W3,hW3⟩:∃ W3,W3=W2.alloc (.cells #[.int .i64 3,.int .i64 0,.string (⟨#[]⟩:ByteArray),.slice (some ⟨g,0,none⟩) 2 cp] 32):=⟨_,rfl⟩
 have hn3:Below W2.heap.size W2 W3:=by rw[hW3];exact(Below.refl _ _).alloc (Nat.le_refl _) _
 have hg3:W3.heap[W2.heap.size]? = some (.cells #[.int .i64 3,.int .i64 0,.string (⟨#[]⟩:ByteArray),.slice (some ⟨g,0,none⟩) 2 cp] 32 (0,0)):=by rw[hW3];exact alloc_lastV _ _
 obtain⟨⟨z0,z1,z2,z3⟩,_⟩:=box4 hg3
 have q0:=pw_cell_below hn3 y0
 have q1:=pw_cell_below hn3 y1
 have q2:=pw_cell_below hn3 y2
 have q3:=pw_cell_below hn3 y3
 have q4:=pw_cell_below hn3 y4
 have q7:=pw_cell_below hn3 y7
 have hb13:Below W1.heap.size W1 W3:=hb2.trans (hn3.mono hb2.size)
 have HDP:=Lib.hid (depth_calls (SizeOf.sizeOf c+1) c (Nat.lt_succ_self _) (by have:=HD.out;omega) A1 c1 W3 (Kd.C_below hC1 hn3))
 have HR1:=Lib.hid (rC_below r1 hn3)
 have HR2:=Lib.hid (rC_below r2 hn3)
 have HB3:=Lib.hid hb13
 have HB2:=Lib.hid hb2.size
 have HBG:=Lib.hid hbg
 have HG3:=Lib.hid hg3
 have HQ:=Lib.hid (And.intro q0 (And.intro q1 (And.intro q2 (And.intro q3 (And.intro q4 q7)))))
 have HW3:=Lib.hid hW3
 rw[hW3]at q0 q1 q2 q3 q4 z0 z1 z2 z3
 have hdd:decide ((14:Int) < (deepS c:Int))=false:=decide_eq_false (by have:=HD.out;omega)
 clear hR hb2 hbg y0 y1 y2 y3 y4 y7 r1 r2 hC1 hn3 hg3 hb13 hW3 q7
 go_wp2_with fail
 rw[← HW3.out]
 clear q0 q1 q2 q3 q4 z0 z1 z2 z3
 refine HDP.out.mono ?_
 rintro e W4 ⟨rfl,hb4⟩
 have HB4:=Lib.hid hb4
 have hg4:=((HB3.out.trans (hb4.mono HB3.out.size)).block _ (Array.getElem?_eq_some_iff.1 HG1.out).1).trans HG1.out
 have hb34:w.heap.size < W2.heap.size:=by have:=HB2.out;have:=HS1.out;omega
 have hcl:∀ W x,LsS W4 w.heap.size #[.int .i64 c.f0,.int .i64 c.f1,.string c.f2,.slice A1 c.f3.length c1] #[.int .i64 0,.int .i64 0,.string (⟨#[]⟩:ByteArray),.slice none 0 0] x W→W.cell? ⟨W2.heap.size,3,none⟩=some (.slice (some ⟨g,0,none⟩) 2 cp)∧(W.cell? ⟨g,0,none⟩=some (.int .i64 c.f0)∧W.cell? ⟨g,1,none⟩=some (.int .i64 c.f1)∧W.cell? ⟨g,2,none⟩=some (.string c.f2)∧W.cell? ⟨g,3,none⟩=some (.slice A1 c.f3.length c1))∧W.cell? ⟨g,7,none⟩=some u2:=fun W x hW=>by
  obtain⟨q0,q1,q2,q3,q4,q7⟩:=HQ.out
  have hg:=(hb4.block _ (Array.getElem?_eq_some_iff.1 HG3.out).1).trans HG3.out
  have hgn:¬ g=w.heap.size:=by have:=HBG.out;have:=HS1.out;omega
  have k:=fun {o u} (q:W3.cell? ⟨g,o,none⟩=some u)=>mod_cell hW.1 (pw_cell_below hb4 q) hgn
  exact⟨mod_cell hW.1 (box4 hg).1.2.2.2 (by omega),⟨k q0,k q1,k q2,k q3⟩,k q7⟩
 have HCL:=Lib.hid hcl
 have HB4:=Lib.hid hb4
 have HG4:=Lib.hid hg4
 clear hcl hb4 hg4 hb34
 go_wp2_with fail
 refine' wp_region_factsM (S:=(fun L W=>LsS W4 w.heap.size #[.int .i64 c.f0,.int .i64 c.f1,.string c.f2,.slice A1 c.f3.length c1] #[.int .i64 0,.int .i64 0,.string (⟨#[]⟩:ByteArray),.slice none 0 0] (L 9) W)) (fun _ _ _=>True) [eqM _,eqM (.slice (some ⟨g,0,none⟩) 2 cp),eqM _,eqM (.agg #[.int .i64 c.f0,.int .i64 c.f1,.string c.f2,.slice A1 c.f3.length c1]),eqM _,eqM (.slice (some ⟨g,0,none⟩) 2 cp),eqM _,eqM _,eqM u2,eqM undef,eqM _,eqM _] (by kernel_rfl) (by kernel_rfl) ?hst ?h0 (Ord.stepsM_cons ?s0 (Ord.stepsM_cons ?s1 (Ord.stepsM_cons ?s2 (Ord.stepsM_cons ?s3 (Ord.stepsM_cons ?s4 (Ord.stepsM_cons ?s5 (Ord.stepsM_cons ?s6 (Ord.stepsM_cons ?s7 (Ord.stepsM_cons ?s8 (Ord.stepsM_cons ?s9 (Ord.stepsM_cons ?s10 (Ord.stepsM_cons ?s11 (Ord.stepsM_nil))))))))))))) ?fin
 case s0=>
  intro g W L hL hSW hd
  try simp only[Nat.zero_add,Nat.reduceAdd]at hd ⊢
  with_reducible refine OpGives.pre_reads [] 50 ?_ ?_ ?_
  ·rfl
  ·kernel_rfl
  simp only[List.map_cons,List.map_nil]
  refine OpGives.val (w':=W) ?_ ⟨trivial,rfl,hSW⟩
  go_simp
  try with_reducible rfl
 case s1=>
  intro g W L hL hSW hd
  try simp only[Nat.zero_add,Nat.reduceAdd]at hd ⊢
  have h0:g 0=_:=hd 0 (by decide) (by kernel_rfl)
  with_reducible refine OpGives.pre_reads [(41,0)] 50 ?_ ?_ ?_
  ·rfl
  ·kernel_rfl
  simp only[List.map_cons,List.map_nil]
  obtain⟨k3,_⟩:=HCL.out W _ hSW;refine OpGives.val (w':=W) ?_ ⟨trivial,rfl,hSW⟩;go_simp
 case s2=>
  intro g W L hL hSW hd
  try simp only[Nat.zero_add,Nat.reduceAdd]at hd ⊢
  have h1:g 1=_:=hd 1 (by decide) (by kernel_rfl)
  with_reducible refine OpGives.pre_reads [(42,1)] 50 ?_ ?_ ?_
  ·rfl
  ·kernel_rfl
  simp only[List.map_cons,List.map_nil]
  refine OpGives.val (w':=W) ?_ ⟨trivial,rfl,hSW⟩
  go_simp
  try with_reducible rfl
 case s3=>
  intro g W L hL hSW hd
  try simp only[Nat.zero_add,Nat.reduceAdd]at hd ⊢
  have h2:g 2=_:=hd 2 (by decide) (by kernel_rfl)
  with_reducible refine OpGives.pre_reads [(43,2)] 50 ?_ ?_ ?_
  ·rfl
  ·kernel_rfl
  simp only[List.map_cons,List.map_nil]
  obtain⟨_,⟨q0,q1,q2,q3⟩,_⟩:=HCL.out W _ hSW;refine OpGives.val (w':=W) ?_ ⟨trivial,rfl,hSW⟩;go_simp
 case s4=>
  intro g W L hL hSW hd
  try simp only[Nat.zero_add,Nat.reduceAdd]at hd ⊢
  with_reducible refine OpGives.pre_reads [] 50 ?_ ?_ ?_
  ·rfl
  ·kernel_rfl
  simp only[List.map_cons,List.map_nil]
  refine OpGives.val (w':=W) ?_ ⟨trivial,rfl,hSW⟩
  go_simp
  try with_reducible rfl
 case s5=>
  intro g W L hL hSW hd
  try simp only[Nat.zero_add,Nat.reduceAdd]at hd ⊢
  have h4:g 4=_:=hd 4 (by decide) (by kernel_rfl)
  with_reducible refine OpGives.pre_reads [(45,4)] 50 ?_ ?_ ?_
  ·rfl
  ·kernel_rfl
  simp only[List.map_cons,List.map_nil]
  obtain⟨k3,_⟩:=HCL.out W _ hSW;refine OpGives.val (w':=W) ?_ ⟨trivial,rfl,hSW⟩;go_simp
 case s6=>
  intro g W L hL hSW hd
  try simp only[Nat.zero_add,Nat.reduceAdd]at hd ⊢
  have h5:g 5=_:=hd 5 (by decide) (by kernel_rfl)
  with_reducible refine OpGives.pre_reads [(46,5)] 50 ?_ ?_ ?_
  ·rfl
  ·kernel_rfl
  simp only[List.map_cons,List.map_nil]
  refine OpGives.val (w':=W) ?_ ⟨trivial,rfl,hSW⟩
  go_simp
  try with_reducible rfl
 case s7=>
  intro g W L hL hSW hd
  try simp only[Nat.zero_add,Nat.reduceAdd]at hd ⊢
  have h6:g 6=_:=hd 6 (by decide) (by kernel_rfl)
  with_reducible refine OpGives.pre_reads [(47,6)] 50 ?_ ?_ ?_
  ·rfl
  ·kernel_rfl
  simp only[List.map_cons,List.map_nil]
  refine OpGives.val (w':=W) ?_ ⟨trivial,rfl,hSW⟩
  go_simp
  try with_reducible rfl
 case s8=>
  intro g W L hL hSW hd
  try simp only[Nat.zero_add,Nat.reduceAdd]at hd ⊢
  have h7:g 7=_:=hd 7 (by decide) (by kernel_rfl)
  with_reducible refine OpGives.pre_reads [(48,7)] 50 ?_ ?_ ?_
  ·rfl
  ·kernel_rfl
  simp only[List.map_cons,List.map_nil]
  obtain⟨_,_,q7⟩:=HCL.out W _ hSW;refine OpGives.val (w':=W) ?_ ⟨trivial,rfl,hSW⟩;go_simp
 case s9=>
  intro g W L hL hSW hd
  try simp only[Nat.zero_add,Nat.reduceAdd]at hd ⊢
  have h3:g 3=_:=hd 3 (by decide) (by kernel_rfl)
  with_reducible refine OpGives.pre_reads [(44,3)] 50 ?_ ?_ ?_
  ·rfl
  ·kernel_rfl
  simp only[List.map_cons,List.map_nil]
  obtain⟨hm,hg⟩:=hSW;rw[hL]at hg;obtain⟨⟨z0,z1,z2,z3⟩,f0,f1,f2,f3⟩:=box4 hg;refine OpGives.skip (w':=put4 W w.heap.size (.int .i64 c.f0) (.int .i64 c.f1) (.string c.f2) (.slice A1 c.f3.length c1)) ?_ ⟨trivial,rfl,hm.trans (put4_mod _ _ _ _ _ _) (fun _ e=> .inl e),put4_same hg _ _ _ _⟩;unfold put4;go_simp
 case s10=>
  intro g W L hL hSW hd
  try simp only[Nat.zero_add,Nat.reduceAdd]at hd ⊢
  have h8:g 8=_:=hd 8 (by decide) (by kernel_rfl)
  with_reducible refine OpGives.pre_reads [(49,8)] 50 ?_ ?_ ?_
  ·rfl
  ·kernel_rfl
  simp only[List.map_cons,List.map_nil]
  refine OpGives.val (w':=W) ?_ ⟨trivial,rfl,hSW⟩
  go_simp
  try with_reducible rfl
 case s11=>
  intro g W L hL hSW hd
  try simp only[Nat.zero_add,Nat.reduceAdd]at hd ⊢
  with_reducible refine OpGives.pre_reads [] 50 ?_ ?_ ?_
  ·rfl
  ·kernel_rfl
  simp only[List.map_cons,List.map_nil]
  refine OpGives.val (w':=W) ?_ ⟨trivial,rfl,hSW⟩
  go_simp
  try with_reducible rfl
 case hst=>exact fun i j v w w' _ h _=>st_of (R:=fun _ _=>True) (by repeat' first | exact trivial | with_reducible refine StL.eq ?_ | with_reducible refine StL.any ?_) i v w w' h trivial
 case h0=>exact⟨(Drum.Mod.refl _ _).drew,HG4.out⟩
 case fin=>
  intro v' W' L hL hSW hf
  have h10:v' 10=_:=hf 10 (Nat.lt_of_lt_of_eq (by decide:10 < 12) rfl)
  have h11:v' 11=_:=hf 11 (Nat.lt_of_lt_of_eq (by decide:11 < 12) rfl)
  rw[hL 9 (Nat.lt_of_lt_of_eq (by decide:9 < 12) rfl)]at hSW
  clear hf hL
  generalize hF:Ord.pre _ _ v' _=F
  rw[Ord.pre_lit [some 41,some 42,some 43,some 44,some 45,some 46,some 47,some 48,some 49,none,some 3,some 4]
   (by kernel_rfl)]at hF
  simp only[Ord.puts,Nat.zero_add,Nat.reduceAdd]at hF
  subst hF
  rw[h10,h11]
  obtain⟨hm,hgb⟩:=hSW
  have h14:Below W1.heap.size W1 W4:=HB3.out.trans (HB4.out.mono HB3.out.size)
  have hbw:Below w.heap.size w W':=(HN1.out.trans (h14.mono HN1.out.size)).trans (hm.below (by have:=HS1.out;have:=h14.size;omega) (fun i e=>by omega))
  have hmv:∀ {v l},rC W3 W1.heap.size v l→rC W' w.heap.size v l:=fun h=>
   Kd.R_mono (Kd.R_lower (Kd.R_step (Kd.R_bound (rC_below h HB4.out)) (fun k hk hl=>hm.block k hl (by have:=HS1.out;have:=hk.2.1;omega))) (by have:=HS1.out;omega)) (fun _ _=>trivial)
  have HFIN:=Lib.hid (And.intro (hmv HR1.out) (And.intro (hmv HR2.out) hbw))
  have HGB:=Lib.hid (show W'.heap[w.heap.size]? = some (.cells #[.int .i64 c.f0,.int .i64 c.f1,.string c.f2,.slice A1 c.f3.length c1] 32 (0,0))from hgb)
  clear hm hgb h14 hbw hmv h10 h11
  refine wpAny_done (by kernel_rfl) ?_ _
  try simp only[List.getElem_toArray,List.getElem_cons_succ,List.getElem_cons_zero]
  go_frame
  go_wp2_with fail
  refine bodyPost_ret (results_lists _ _ w.heap.size _ _ _ _ _ _ rfl rfl rfl HGB.out) rfl ?_
  exact⟨_,u2,rfl,HFIN.out.1,HFIN.out.2.1,HFIN.out.2.2⟩
end Go.Proofs.YtlmabbigfdbmbaaGreatDoor.PShelfNil
namespace Go.Proofs.YtlmabbigfdbmbaaGreatDoor.PShelfNil
open Go.RowKit Go.Proofs.YtlmabbigfdbmbaaGreatDoor.Ord Go.Proofs.YtlmabbigfdbmbaaGreatDoor.Obj Go.Proofs.YtlmabbigfdbmbaaGreatDoorW.PrintWords Go.Proofs.YtlmabbigfdbmbaaGreatDoorW.PrintLast Go.Proofs.YtlmabbigfdbmbaaGreatDoorW.PrintMore
attribute [local irreducible] OpGives
noncomputable def eqC(x y:S32):Bool:=@decide (x=y) (Classical.propDecidable _)
theorem eqC_self(x:S32):eqC x x=true:=by unfold eqC;simp
theorem eqC_ne{x y:S32}(h:x≠y):eqC x y=false:=by unfold eqC;simp[h]
theorem eqC_true{x y:S32}(h:eqC x y=true):x=y:=by unfold eqC at h;simpa using h
theorem eqC_false{x y:S32}(h:eqC x y=false):x≠y:=fun e=>by rw[e,eqC_self]at h;cases h
theorem cell_at{w:World}{A:Option Addr}{l:List S32}{i:Nat}{x:S32}(h:Kd.C k32 w A l.length l)(hx:l[i]? = some x) :
  ∃ ad A3 c3,A=some ad∧w.cell? (ad.add (i * 4))=some (.int .i64 x.f0)∧w.cell? ⟨(ad.add (i * 4)).block,(ad.add (i * 4)).off+1,none⟩=some (.int .i64 x.f1)∧w.cell? ⟨(ad.add (i * 4)).block,(ad.add (i * 4)).off+2,none⟩=some (.string x.f2)∧w.cell? ⟨(ad.add (i * 4)).block,(ad.add (i * 4)).off+3,none⟩=some (.slice A3 x.f3.length c3)∧x.f3.length≤c3∧Kd.C k32 w A3 x.f3.length x.f3∧(ad.add (i * 4)).block < w.heap.size:=by
 have hi:i < l.length:=(List.getElem?_eq_some_iff.1 hx).1
 obtain⟨ad,A3,c3,e,c0,c1,c2,c4,l3,g3⟩:=at_T32 h (i:Int) (by omega) (by omega)
 have hrd:rd_T32 l (i:Int)=x:=by unfold rd_T32;rw[Int.toNat_natCast,List.getD_eq_getElem?_getD,hx];rfl
 rw[hrd]at c0 c1 c2 c4 l3 g3
 rw[Int.toNat_natCast]at c0 c1 c2 c4
 exact⟨ad,A3,c3,e,c0,c1,c2,c4,l3,g3,block_lt_of_cell c0⟩
set_option maxHeartbeats 8000000 in
set_option maxRecDepth 100000 in
theorem same4_calls:∀ (z:Nat) (x y:S32),SizeOf.sizeOf x < z→∀ (A:Option Addr) (c:Nat) (A':Option Addr) (c':Nat) (w:World),Kd.C k32 w A x.f3.length x.f3→Kd.C k32 w A' y.f3.length y.f3→
  Calls Tryz.prog 28 #[.agg #[.int .i64 x.f0,.int .i64 x.f1,.string x.f2,.slice A x.f3.length c],.agg #[.int .i64 y.f0,.int .i64 y.f1,.string y.f2,.slice A' y.f3.length c']] w fun e w'=>e = .returned (.bool (eqC x y))∧Below w.heap.size w w'
 | 0,x,y,h,A,c,A',c',w,hA,hA'=>by omega
 | z+1,x,y,h,A,c,A',c',w,hA,hA'=>by
  have HIH:=Lib.hid (fun x y h A c A' c' w=>same4_calls z x y h A c A' c' w)
  obtain⟨RV,hRV⟩:∃ RV,RV=eqC x y:=⟨_,rfl⟩
  rw[← hRV]
  have HRV:=Lib.hid hRV
  clear hRV
  obtain⟨k,n,s,l⟩:=x
  obtain⟨k',n',s',l'⟩:=y
  simp only at hA hA' ⊢
  obtain⟨W2,hW2⟩:∃ W2,W2=(w.alloc (.cells #[.int .i64 k,.int .i64 n,.string s,.slice A l.length c] 32)).alloc (.cells #[.int .i64 k',.int .i64 n',.string s',.slice A' l'.length c'] 32):=⟨_,rfl⟩
  have hn2:Below w.heap.size w W2:=by rw[hW2];exact((Below.refl _ _).alloc (Nat.le_refl _) _).alloc (by simp) _
  have hg2:W2.heap[w.heap.size+1]? = some (.cells #[.int .i64 k',.int .i64 n',.string s',.slice A' l'.length c'] 32 (0,0)):=by
   have:=alloc_lastV (w.alloc (.cells #[.int .i64 k,.int .i64 n,.string s,.slice A l.length c] 32)) (.cells #[.int .i64 k',.int .i64 n',.string s',.slice A' l'.length c'] 32)
   rw[← hW2]at this;simpa using this
  have hg1:W2.heap[w.heap.size]? = some (.cells #[.int .i64 k,.int .i64 n,.string s,.slice A l.length c] 32 (0,0)):=by
   have h1:=alloc_lastV w (.cells #[.int .i64 k,.int .i64 n,.string s,.slice A l.length c] 32)
   rw[hW2];exact(((Below.refl _ (w.alloc (.cells #[.int .i64 k,.int .i64 n,.string s,.slice A l.length c] 32))).alloc (Nat.le_refl _) _).block _ (Array.getElem?_eq_some_iff.1 h1).1).trans h1
  obtain⟨⟨b0,b1,b2,b3⟩,_⟩:=box4 hg1
  obtain⟨⟨d0,d1,d2,d3⟩,_⟩:=box4 hg2
  have HN:=Lib.hid hn2
  have HG1:=Lib.hid hg1
  have HG2:=Lib.hid hg2
  have HA:=Lib.hid (Kd.C_below hA hn2)
  have HA':=Lib.hid (Kd.C_below hA' hn2)
  have hmx:=hA.2.1
  rw[hW2]at b0 b1 b2 b3 d0 d1 d2 d3
  have HW2:=Lib.hid hW2
  clear hW2 hn2 hg1 hg2 hA hA'
  have HNO:=Lib.hid (fun(h:(⟨k,n,s,l⟩:S32)≠⟨k',n',s',l'⟩)=>(HRV.out.trans (eqC_ne h):RV=false))
  by_cases h0:k=k'
  case neg=>
   have HF:=Lib.hid (HNO.out (fun e=>by cases e;exact h0 rfl))
   go_enter Tryz.func28,Tryz.ntmps28
   go_wp2_with fail
   go_ret
   exact⟨by rw[HF.out];rfl,((Below.refl _ _).alloc (Nat.le_refl _) _).alloc (by simp) _⟩
  subst h0
  by_cases h1:n=n'
  case neg=>
   have HF:=Lib.hid (HNO.out (fun e=>by cases e;exact h1 rfl))
   go_enter Tryz.func28,Tryz.ntmps28
   go_wp2_with fail
   go_ret
   exact⟨by rw[HF.out];rfl,((Below.refl _ _).alloc (Nat.le_refl _) _).alloc (by simp) _⟩
  subst h1
  by_cases h2:s=s'
  case neg=>
   have HF:=Lib.hid (HNO.out (fun e=>by cases e;exact h2 rfl))
   have h2':(s.toList == s'.toList)=false:=by
    rw[beq_eq_false_iff_ne];intro e
    rw[Lib.toList_data,Lib.toList_data]at e
    exact h2 (by cases s;cases s';simp only[ByteArray.mk.injEq];exact Array.toList_inj.1 e)
   go_enter Tryz.func28,Tryz.ntmps28
   go_wp2_with fail
   go_ret
   exact⟨by rw[HF.out];rfl,((Below.refl _ _).alloc (Nat.le_refl _) _).alloc (by simp) _⟩
  subst h2
  by_cases h3:l.length=l'.length
  case neg=>
   have HF:=Lib.hid (HNO.out (fun e=>by cases e;exact h3 rfl))
   go_enter Tryz.func28,Tryz.ntmps28
   go_wp2_with fail
   go_ret
   exact⟨by rw[HF.out];rfl,((Below.refl _ _).alloc (Nat.le_refl _) _).alloc (by simp) _⟩
  have HL:=Lib.hid h3
  rw[← h3]at d3
  have HG3:=Lib.hid (by have:=HG2.out;rw[← h3]at this;exact this)
  have HA3:=Lib.hid (by have:=HA'.out;rw[← h3]at this;exact this)
  rw[← h3]
  rw[← h3]at HW2
  clear h3 HA' HG2
  go_enter Tryz.func28,Tryz.ntmps28
  go_wp2_with fail
  rw[← HW2.out]
  clear b0 b1 b2 b3 d0 d1 d2 d3
  go_loopw [5] (fun v wr=>∃ i:Nat,v = .int .i64 (i:Int)∧i≤l.length∧Hid (l.take i=l'.take i)∧Below W2.heap.size W2 wr) (fun v _=>l.length - (intOf v).toNat)
  case atStart=>exact⟨0,rfl,Nat.zero_le _,Lib.hid rfl,Below.refl _ _⟩
  case round=>
   obtain⟨i,rfl,hi,HT,hbe⟩:=hrel
   have HBE:=Lib.hid hbe
   have hgr1:=(hbe.block _ (Array.getElem?_eq_some_iff.1 HG1.out).1).trans HG1.out
   have hgr2:=(hbe.block _ (Array.getElem?_eq_some_iff.1 HG3.out).1).trans HG3.out
   obtain⟨⟨b0,b1,b2,b3⟩,_⟩:=box4 hgr1
   obtain⟨⟨d0,d1,d2,d3⟩,_⟩:=box4 hgr2
   by_cases hil:i < l.length
   ·obtain⟨x,hx⟩:∃ x,l[i]? = some x:=⟨_,List.getElem?_eq_getElem hil⟩
    obtain⟨y,hy⟩:∃ y,l'[i]? = some y:=⟨_,List.getElem?_eq_getElem (by have:=HL.out;omega)⟩
    have hA:=Kd.C_below HA.out hbe
    have hA':=Kd.C_below HA3.out hbe
    obtain⟨ad,A3,c3,rfl,c0,c1,c2,c3',l3,g3,hbk⟩:=cell_at hA hx
    obtain⟨ad',A4,c4,rfl,e0,e1,e2,e3,l4,g4,hbk'⟩:=cell_at (l:=l') (by have:=HL.out;rw[← this];exact hA') hy
    have hsz:SizeOf.sizeOf x < z:=by
     have:=List.sizeOf_lt_of_mem (List.mem_of_getElem? hx)
     simp at h;omega
    have HC:=Lib.hid (fun W (hW:Below wr.heap.size wr W)=>HIH.out x y hsz A3 c3 A4 c4 W (Kd.C_below g3 hW) (Kd.C_below g4 hW))
    have HX:=Lib.hid (And.intro hx hy)
    clear hA hA' g3 g4 hsz hx hy hbe hgr1 hgr2
    go_wp2_with fail
    go_still_tail 10,(by kernel_rfl)
    change wpList _ _ _ _ _ wr.drew
    have hbd:Below wr.heap.size wr wr.drew:=(Below.refl _ _).drew
    have HCD:=Lib.hid (HC.out wr.drew hbd)
    have HBD:=Lib.hid hbd
    clear hbd
    generalize wr.drew=w3 at HCD HBD ⊢
    go_wp2_with fail
    refine HCD.out.mono ?_
    rintro e W4 ⟨rfl,hb4⟩
    have HB4:=Lib.hid (HBE.out.trans ((HBD.out.trans (hb4.mono HBD.out.size)).mono HBE.out.size))
    clear hb4
    cases hq:eqC x y with
    | true=>
     have HT2:=Lib.hid (show l.take (i+1)=l'.take (i+1)by rw[List.take_add_one,List.take_add_one,HX.out.1,HX.out.2,HT.out,eqC_true hq])
     clear hq
     go_wp2_with fail
     go_roundw
     case rel=>exact⟨i+1,by go_num,hil,HT2,HB4.out⟩
     case measure=>simp[intOf];omega
    | false=>
     have HF:=Lib.hid (HNO.out (fun e=>by
      injection e with e1 e2 e3 e4
      have h1:=HX.out.1;have h2:=HX.out.2
      rw[e4]at h1;rw[h1]at h2
      exact eqC_false hq (Option.some.inj h2)))
     clear hq
     go_wp2_with fail
     go_ret
     exact⟨by rw[HF.out];rfl,HN.out.trans (HB4.out.mono HN.out.size)⟩
   ·have HF:=Lib.hid (show RV=true by
     have hie:i=l.length:=by omega
     have ht:=HT.out
     rw[hie,List.take_length,HL.out,List.take_length]at ht
     rw[HRV.out,ht];exact eqC_self _)
    clear hbe hgr1 hgr2
    go_wp2_with fail
    go_ret
    exact⟨by rw[HF.out];rfl,HN.out.trans (HBE.out.mono HN.out.size)⟩
end Go.Proofs.YtlmabbigfdbmbaaGreatDoor.PShelfNil
namespace Go.Proofs.YtlmabbigfdbmbaaGreatDoor.PShelfNil
open Go.RowKit Go.Proofs.YtlmabbigfdbmbaaGreatDoor.Ord Go.Proofs.YtlmabbigfdbmbaaGreatDoor.Obj Go.Proofs.YtlmabbigfdbmbaaGreatDoorW.PrintWords Go.Proofs.YtlmabbigfdbmbaaGreatDoorW.PrintLast Go.Proofs.YtlmabbigfdbmbaaGreatDoorW.PrintMore Go.Proofs.YtlmabbigfdbmbaaGreatDoor.Shelf
attribute [local irreducible] OpGives
attribute [local go_sem] rdl_const rdl_func rdl_global rdl_nil rdl_cons
def spanT(lo hi:Nat)(W0:World):Drum.Thing where
 P:=fun W=>(∀ k,lo≤k→k < hi→W.heap[k]? = W0.heap[k]?)∧hi≤W.heap.size
 F:=fun k=>lo≤k∧k < hi
 kept:=fun W W' G h hm hG=>⟨fun k h1 h2=>(hm.block k (Nat.lt_of_lt_of_le h2 h.2) (hG k ⟨h1,h2⟩)).trans (h.1 k h1 h2),Nat.le_trans h.2 hm.size⟩
 lt:=fun W h k hk=>Nat.lt_of_lt_of_le hk.2 h.2
def rowT(ok:Nat→Prop)(base:Nat)(u:Value)(xs:List S32):Drum.Thing where
 P:=fun W=>Kd.R k32 32 W base ok u xs∧∀ k,ok k→k < W.heap.size
 F:=ok
 kept:=fun W W' G h hm hG=>⟨Kd.R_step h.1 (fun k hk hl=>hm.block k hl (hG k hk)),fun k hk=>Nat.lt_of_lt_of_le (h.2 k hk) hm.size⟩
 lt:=fun W h k hk=>h.2 k hk
def sumB(b:ByteArray):ByteArray:=byL (Sha.sum b.data.toList)
theorem sumB_size(b:ByteArray):(sumB b).size=32:=by unfold sumB;rw[byL_size];exact Sha.sum_len _
def putAllB:SS→List ByteArray→SS
 | S,[]=>S
 | S,b :: bs=>putAllB (S.put (sumB b) b).2 bs
def putsOk:SS→List ByteArray→Prop
 | S,[]=>True
 | S,b :: bs=>(S.put (sumB b) b).1=0∧(takeO b).2=0∧b.size≤65535∧putsOk (S.put (sumB b) b).2 bs
theorem putAllB_snoc:∀ (bs:List ByteArray) (S:SS) (b:ByteArray),putAllB S (bs ++ [b])=((putAllB S bs).put (sumB b) b).2
 | [],S,b=>rfl
 | x :: bs,S,b=>by rw[List.cons_append,putAllB,putAllB,putAllB_snoc bs]
theorem put_ups(S:SS)(id b:ByteArray):(S.put id b).2.ups≤S.ups+1:=by
 unfold SS.put
 cases S.bytes id with
 | none=>exact Nat.le_refl _
 | some b'=>simp only[];split<;>exact Nat.le_succ _
theorem putsOk_at:∀ (bs:List ByteArray) (S:SS) (i:Nat) (b:ByteArray),putsOk S bs→S.ok→bs[i]? = some b→((putAllB S (bs.take i)).put (sumB b) b).1=0∧(takeO b).2=0∧b.size≤65535∧(putAllB S (bs.take i)).ok∧(putAllB S (bs.take i)).ups≤S.ups+i
 | [],S,i,b,_,_,h=>by simp at h
 | x :: bs,S,0,b,hp,ok,h=>by
  simp at h;subst h
  exact⟨hp.1,hp.2.1,hp.2.2.1,ok,Nat.le_refl _⟩
 | x :: bs,S,i+1,b,hp,ok,h=>by
  rw[List.getElem?_cons_succ]at h
  rw[List.take_succ_cons,putAllB]
  have ih:=putsOk_at bs _ i b hp.2.2.2 (SS.put_ok ok (by rw[sumB_size];exact Nat.le_refl _) hp.2.2.1) h
  have:=put_ups S (sumB x) x
  exact⟨ih.1,ih.2.1,ih.2.2.1,ih.2.2.2.1,by omega⟩
theorem read_results:(Tryz.f58).results=#[.cell 4 32,.tmp 5]:=Tryz.results58
theorem results_read(tmps:Array Value)(w:World)(c:Nat)(a0 a1 a2 a3 b:Value)(h2:tmps.getD 4 undef = .pointer (some ⟨c,0,none⟩))(h3:tmps.getD 5 undef=b)
  (hc:w.heap[c]? = some (.cells #[a0,a1,a2,a3] 32 (0,0))) :
  (results Tryz.f58 tmps).run Tryz.prog w = .ok (.tuple #[.agg #[a0,a1,a2,a3],b]) w:=by
 have h2':tmps[4]?.getD undef = .pointer (some ⟨c,0,none⟩):=by simpa using h2
 have h3':tmps[5]?.getD undef=b:=by simpa using h3
 obtain⟨⟨k0,k1,k2,k3⟩,_⟩:=box4 hc
 simp[results,read_results,h2',h3',asAddr,k0,k1,k2,k3,go_sem]
section
variable{B:Nat}{w W:World}{l:List Drum.Thing}{sb tb pb:Nat}{v:Value}{S:SS}
def ReadS(B:Nat)(w:World)(l:List Drum.Thing)(sb tb pb:Nat)(S S':SS)(x:Bool)(W:World):Prop:=∃ v,Drum.Sep B w W (shelfT sb tb pb v (if x then S' else S) :: l)
set_option maxHeartbeats 16000000 in
set_option maxRecDepth 100000 in
theorem sread_sep(h:Drum.Sep B w W (shelfT sb tb pb v S :: l))(ok:S.ok)(r:ByteArray)(c:S32)(bs:List ByteArray)(hu:S.ups+bs.length≤1000000)(hr:takeR r=(listC [c,listC (bs.map textC)],0))(hs:r.size≤140737488355328)(hd:deepS c≤14)(hp:putsOk S bs)(hT:∀ W',Below B w W'→Lib.Utf8Tabs 1 2 W') :
  Calls Tryz.prog 58 #[.pointer (some ⟨sb,0,none⟩),.string r] W fun e W'=>∃ v' u lo hi,e = .returned (.tuple #[.agg #[.int .i64 c.f0,.int .i64 c.f1,.string c.f2,u],.int .i64 0])∧Drum.Sep B w W' (shelfT sb tb pb v' (putAllB S bs) :: rowT (fun k=>lo≤k∧k < hi) lo u c.f3 :: l)∧W.heap.size≤lo:=by
 obtain⟨W1,hW1⟩:∃ W1,W1=W.alloc (.cells #[.int .i64 0,.int .i64 0,.string (⟨#[]⟩:ByteArray),.slice none 0 0] 32):=⟨_,rfl⟩
 have hn1:Below W.heap.size W W1:=by rw[hW1];exact(Below.refl _ _).alloc (Nat.le_refl _) _
 have hg1:W1.heap[W.heap.size]? = some (.cells #[.int .i64 0,.int .i64 0,.string (⟨#[]⟩:ByteArray),.slice none 0 0] 32 (0,0)):=by rw[hW1];exact alloc_lastV _ _
 have hs1:W1.heap.size=W.heap.size+1:=by rw[hW1];simp
 have HLS:=Lib.hid (lists_calls r c (bs.map textC) hr hs hd W1)
 have H:=Lib.hid h
 have HOK:=Lib.hid (And.intro ok (And.intro hu hp))
 have HT:=Lib.hid hT
 have HN1:=Lib.hid hn1
 have HG1:=Lib.hid hg1
 have HS1:=Lib.hid hs1
 have HW1:=Lib.hid hW1
 clear h ok hu hr hs hd hp hn1 hg1 hs1 hW1 hT
 go_enter Tryz.func58,Tryz.ntmps58
 go_wp2_with fail
 rw[← HW1.out]
 refine HLS.out.mono ?_
 rintro e W2 ⟨u1,u2,rfl,r1,r2,hb2⟩
 obtain⟨A2,c2,rfl,hl2,_⟩:=Kd.R_reads r2
 obtain⟨A1,c1,rfl,hl1,_⟩:=Kd.R_reads r1
 obtain⟨W3,hW3⟩:∃ W3,W3=W2.alloc (.cells #[.int .i64 c.f0,.int .i64 c.f1,.string c.f2,.slice A1 c.f3.length c1] 32):=⟨_,rfl⟩
 have hn3:Below W2.heap.size W2 W3:=by rw[hW3];exact(Below.refl _ _).alloc (Nat.le_refl _) _
 have hg3:W3.heap[W2.heap.size]? = some (.cells #[.int .i64 c.f0,.int .i64 c.f1,.string c.f2,.slice A1 c.f3.length c1] 32 (0,0)):=by rw[hW3];exact alloc_lastV _ _
 have hs3:W3.heap.size=W2.heap.size+1:=by rw[hW3];simp
 have hb13:Below W1.heap.size W1 W3:=hb2.trans (hn3.mono hb2.size)
 have hb03:Below W.heap.size W W3:=HN1.out.trans (hb13.mono HN1.out.size)
 have hS3:Drum.Sep B w W3 (shelfT sb tb pb v S :: spanT W.heap.size W3.heap.size W3 :: l):=
  (H.out.new (t:=spanT W.heap.size W3.heap.size W3) hb03 ⟨fun _ _ _=>rfl,Nat.le_refl _⟩ (fun k hk=>hk.1)).swap
 have HS3:=Lib.hid hS3
 have HG3:=Lib.hid hg3
 have HSZ:=Lib.hid (And.intro hs3 hb2.size)
 have HR1:=Lib.hid r1
 have HR2:=Lib.hid r2
 have HN3:=Lib.hid hn3
 have HG13:=Lib.hid ((hb13.block _ (Array.getElem?_eq_some_iff.1 HG1.out).1).trans HG1.out)
 have hlen:(bs.map textC).length=bs.length:=List.length_map _
 have hbl:bs.length≤1000000:=by have:=HOK.out.2.1;omega
 rw[hlen]
 clear r1 r2 hl1 hb2 hn3 hg3 hs3 hb13 hb03 hS3 hl2
 go_wp2_with fail
 rw[← hW3]
 have HW3:=Lib.hid hW3
 clear hW3
 go_loopw [25] (fun i wr=>∃ j v',i = .int .i64 ((j:Nat):Int)∧j≤bs.length∧Drum.Sep B w wr (shelfT sb tb pb v' (putAllB S (bs.take j)) :: spanT W.heap.size W3.heap.size W3 :: l)) (fun i _=>bs.length - (intOf i).toNat)
 case atStart=>exact⟨0,v,rfl,Nat.zero_le _,HS3.out⟩
 case round=>
  obtain⟨i,v',rfl,hi,hsep⟩:=hrel
  have HSP:=Lib.hid hsep
  have hspan:(∀ k,W.heap.size≤k→k < W3.heap.size→wr.heap[k]? = W3.heap[k]?)∧W3.heap.size≤wr.heap.size:=(hsep.all (spanT W.heap.size W3.heap.size W3) (by simp)).1
  by_cases hil:i < bs.length
  ·obtain⟨b,hb⟩:∃ b,bs[i]? = some b:=⟨_,List.getElem?_eq_getElem hil⟩
   obtain⟨hp0,htk,hbs,hoki,hui⟩:=putsOk_at bs S i b HOK.out.2.2 HOK.out.1 hb
   have hr2:rC wr W1.heap.size (.slice A2 (bs.map textC).length c2) (bs.map textC):=by
    have h3:=rC_below HR2.out HN3.out
    exact Kd.R_mono (Kd.R_step (Kd.R_bound h3) (fun k hk hl=>hspan.1 k (by have:=HS1.out;have:=hk.2.1;omega) hl)) (fun _ _=>trivial)
   obtain⟨hx2,hc2,hC2⟩:=Kd.R_reads' hr2
   obtain⟨ad,A3,c3,rfl,k0,k1,k2,k3,hl3,g3,hbk⟩:=cell_at (i:=i) (x:=textC b) hC2 (by rw[List.getElem?_map,hb];rfl)
   obtain⟨W5,hW5⟩:∃ W5,W5=wr.alloc (.cells #[.int .i64 2,.int .i64 0,.string b,.slice A3 0 c3] 32):=⟨_,rfl⟩
   have hn5:Below wr.heap.size wr W5:=by rw[hW5];exact(Below.refl _ _).alloc (Nat.le_refl _) _
   have hg5:W5.heap[wr.heap.size]? = some (.cells #[.int .i64 2,.int .i64 0,.string b,.slice A3 0 c3] 32 (0,0)):=by rw[hW5];exact alloc_lastV _ _
   obtain⟨⟨y0,y1,y2,y3⟩,_⟩:=box4 hg5
   unfold textC at k0 k1 k2 k3
   simp only[List.length_nil]at k0 k1 k2 k3
   have hS5:Drum.Sep B w W5 (shelfT sb tb pb v' (putAllB S (bs.take i)) :: Tape.blockT wr.heap.size #[.int .i64 2,.int .i64 0,.string b,.slice A3 0 c3] 32 :: spanT W.heap.size W3.heap.size W3 :: l):=
    (hsep.new (t:=Tape.blockT wr.heap.size #[.int .i64 2,.int .i64 0,.string b,.slice A3 0 c3] 32) hn5 hg5 (fun k hk=>by rw[hk];exact Nat.le_refl _)).swap
   have HTK:=Lib.hid (otake_calls b W5 (by omega) (fun h0=>take_parts (by omega) h0) (HT.out _ hS5.below))
   have HSUM:=Lib.hid (fun W'=>Dig.sum_any b (by omega) W')
   have HPT:=Lib.hid (fun W' v' (hS:Drum.Sep B w W' (shelfT sb tb pb v' (putAllB S (bs.take i)) :: Tape.blockT wr.heap.size #[.int .i64 2,.int .i64 0,.string b,.slice A3 0 c3] 32 :: spanT W.heap.size W3.heap.size W3 :: l))=>sput_sep hS hoki (by have:=HOK.out.2.1;omega) (sumB b) b (by rw[sumB_size];decide))
   have hsnoc:putAllB S (bs.take (i+1))=((putAllB S (bs.take i)).put (sumB b) b).2:=by rw[List.take_add_one,hb];exact putAllB_snoc _ _ _
   have HSN:=Lib.hid hsnoc
   have HP0:=Lib.hid hp0
   have HS5:=Lib.hid hS5
   have HTK0:=Lib.hid htk
   have hbi:0≤(i:Int)∧(i:Int) < (bs.length:Int):=by omega
   have hw1:wrap64 ((i:Int)+1)=(i:Int)+1:=by unfold wrap64;omega
   rw[hW5]at y0 y1 y2 y3
   have HW5:=Lib.hid hW5
   clear hsep hspan hb hp0 htk hbs hoki hui hx2 hc2 hC2 hr2 hl3 g3 hbk hn5 hg5 hS5 hsnoc hW5
   go_wp2_with fail
   rw[← HW5.out]
   clear k0 k1 k2 k3 y0 y1 y2 y3
   refine HTK.out.mono ?_
   rintro e W6 ⟨Ar,cr,Ak,ck,Ap,cp,rfl,_,hb6⟩
   rw[HTK0.out]
   obtain⟨o,ho⟩:∃ o,o=(takeO b).1:=⟨_,rfl⟩
   rw[← ho]
   clear ho
   unfold obV
   obtain⟨W7,hW7⟩:∃ W7,W7=W6.alloc (.cells #[.int .i64 o.kind,.string o.label,.slice Ar o.rows.length cr,.slice Ak o.kids.length ck,.slice Ap o.parents.length cp,.int .i64 o.stamp,.string o.note,.string o.root] 27):=⟨_,rfl⟩
   have hS7:=HS5.out.grown (hb6.trans (((Below.refl W6.heap.size W6).alloc (Nat.le_refl _) (.cells #[.int .i64 o.kind,.string o.label,.slice Ar o.rows.length cr,.slice Ak o.kids.length ck,.slice Ap o.parents.length cp,.int .i64 o.stamp,.string o.note,.string o.root] 27)).mono hb6.size))
   rw[← hW7]at hS7
   have HS7:=Lib.hid hS7
   have HW7:=Lib.hid hW7
   clear hS7 hb6 hW7
   go_wp2_with fail
   rw[← HW7.out]
   have hcl:∀ x W',ReadS B w (Tape.blockT wr.heap.size #[.int .i64 2,.int .i64 0,.string b,.slice A3 0 c3] 32 :: spanT W.heap.size W3.heap.size W3 :: l) sb tb pb (putAllB S (bs.take i)) ((putAllB S (bs.take i)).put (sumB b) b).2 x W'→W'.cell? ⟨wr.heap.size,2,none⟩=some (.string b):=fun x W' ⟨v,hS⟩=>by
    have hg:W'.heap[wr.heap.size]? = some (.cells #[.int .i64 2,.int .i64 0,.string b,.slice A3 0 c3] 32 (0,0)):=(hS.all (Tape.blockT wr.heap.size #[.int .i64 2,.int .i64 0,.string b,.slice A3 0 c3] 32) (by simp)).1
    exact(box4 hg).1.2.2.1
   have HCL:=Lib.hid hcl
   clear hcl
   refine' wp_region_factsM (S:=(fun L W'=>ReadS B w (Tape.blockT wr.heap.size #[.int .i64 2,.int .i64 0,.string b,.slice A3 0 c3] 32 :: spanT W.heap.size W3.heap.size W3 :: l) sb tb pb (putAllB S (bs.take i)) ((putAllB S (bs.take i)).put (sumB b) b).2 (L 6) W')) (fun _ _ _=>True) [eqM _,eqM _,eqM (.string b),eqM (.string (sumB b)),eqM _,eqM (.string b),eqM (.int .i64 0),eqM _] (by kernel_rfl) (by kernel_rfl) ?hst ?h0 (Ord.stepsM_cons ?s0 (Ord.stepsM_cons ?s1 (Ord.stepsM_cons ?s2 (Ord.stepsM_cons ?s3 (Ord.stepsM_cons ?s4 (Ord.stepsM_cons ?s5 (Ord.stepsM_cons ?s6 (Ord.stepsM_cons ?s7 (Ord.stepsM_nil))))))))) ?fin
   case s0=>
    intro g W L hL hSW hd
    try simp only[Nat.zero_add,Nat.reduceAdd]at hd ⊢
    with_reducible refine OpGives.pre_reads [] 55 ?_ ?_ ?_
    ·rfl
    ·kernel_rfl
    simp only[List.map_cons,List.map_nil]
    refine OpGives.val (w':=W) ?_ ⟨trivial,rfl,hSW⟩
    go_simp
    try with_reducible rfl
   case s1=>
    intro g W L hL hSW hd
    try simp only[Nat.zero_add,Nat.reduceAdd]at hd ⊢
    with_reducible refine OpGives.pre_reads [] 55 ?_ ?_ ?_
    ·rfl
    ·kernel_rfl
    simp only[List.map_cons,List.map_nil]
    refine OpGives.val (w':=W) ?_ ⟨trivial,rfl,hSW⟩
    go_simp
    try with_reducible rfl
   case s2=>
    intro g W L hL hSW hd
    try simp only[Nat.zero_add,Nat.reduceAdd]at hd ⊢
    have h1:g 1=_:=hd 1 (by decide) (by kernel_rfl)
    with_reducible refine OpGives.pre_reads [(43,1)] 55 ?_ ?_ ?_
    ·rfl
    ·kernel_rfl
    simp only[List.map_cons,List.map_nil]
    have k:=HCL.out _ W hSW;refine OpGives.val (w':=W) ?_ ⟨trivial,rfl,hSW⟩;go_simp
   case s3=>
    intro g W L hL hSW hd
    try simp only[Nat.zero_add,Nat.reduceAdd]at hd ⊢
    have h2:g 2=_:=hd 2 (by decide) (by kernel_rfl)
    with_reducible refine OpGives.pre_reads [(44,2)] 55 ?_ ?_ ?_
    ·rfl
    ·kernel_rfl
    simp only[List.map_cons,List.map_nil]
    rw[h2];refine OpGives.call (f:=54) (args:=#[.string b]) (w':=W) (by go_simp) ((HSUM.out W).mono fun e W' ⟨he,hb⟩=>⟨_,he,trivial,rfl,by obtain⟨v,hS⟩:=hSW;exact⟨v,hS.grown hb⟩⟩)
   case s4=>
    intro g W L hL hSW hd
    try simp only[Nat.zero_add,Nat.reduceAdd]at hd ⊢
    with_reducible refine OpGives.pre_reads [] 55 ?_ ?_ ?_
    ·rfl
    ·kernel_rfl
    simp only[List.map_cons,List.map_nil]
    refine OpGives.val (w':=W) ?_ ⟨trivial,rfl,hSW⟩
    go_simp
    try with_reducible rfl
   case s5=>
    intro g W L hL hSW hd
    try simp only[Nat.zero_add,Nat.reduceAdd]at hd ⊢
    have h4:g 4=_:=hd 4 (by decide) (by kernel_rfl)
    with_reducible refine OpGives.pre_reads [(46,4)] 55 ?_ ?_ ?_
    ·rfl
    ·kernel_rfl
    simp only[List.map_cons,List.map_nil]
    have k:=HCL.out _ W hSW;refine OpGives.val (w':=W) ?_ ⟨trivial,rfl,hSW⟩;go_simp
   case s6=>
    intro g W L hL hSW hd
    try simp only[Nat.zero_add,Nat.reduceAdd]at hd ⊢
    have h0:g 0=_:=hd 0 (by decide) (by kernel_rfl)
    have h3:g 3=_:=hd 3 (by decide) (by kernel_rfl)
    have h5:g 5=_:=hd 5 (by decide) (by kernel_rfl)
    with_reducible refine OpGives.pre_reads [(42,0),(45,3),(47,5)] 55 ?_ ?_ ?_
    ·rfl
    ·kernel_rfl
    simp only[List.map_cons,List.map_nil]
    rw[h3,h5];obtain⟨v,hS⟩:=hSW;rw[hL]at hS;refine OpGives.call (f:=55) (args:=#[.pointer (some ⟨sb,0,none⟩),.string (sumB b),.string b]) (w':=W) (by go_simp) ((HPT.out W v hS).mono fun e W' ⟨v',he,hS'⟩=>⟨_,he,trivial,by rw[HP0.out];rfl,v',hS'⟩)
   case s7=>
    intro g W L hL hSW hd
    try simp only[Nat.zero_add,Nat.reduceAdd]at hd ⊢
    have h6:g 6=_:=hd 6 (by decide) (by kernel_rfl)
    with_reducible refine OpGives.pre_reads [(48,6)] 55 ?_ ?_ ?_
    ·rfl
    ·kernel_rfl
    simp only[List.map_cons,List.map_nil]
    refine OpGives.val (w':=W) ?_ ⟨trivial,rfl,hSW⟩
    go_simp
    try with_reducible rfl
   case hst=>exact fun i j v w w' _ h _=>st_of (R:=fun _ _=>True) (by repeat' first | exact trivial | with_reducible refine StL.eq ?_ | with_reducible refine StL.any ?_) i v w w' h trivial
   case h0=>exact⟨v',HS7.out.drew⟩
   case fin=>
    intro v8 W8 L hL hSW hf
    have h7:v8 7=_:=hf 7 (Nat.lt_of_lt_of_eq (by decide:7 < 8) rfl)
    rw[hL 6 (Nat.lt_of_lt_of_eq (by decide:6 < 8) rfl)]at hSW
    clear hf hL
    generalize hF:Ord.pre _ _ v8 _=F
    rw[Ord.pre_lit [some 42,some 43,some 44,some 45,some 46,some 47,some 48,some 13]
     (by kernel_rfl)]at hF
    simp only[Ord.puts,Nat.zero_add,Nat.reduceAdd]at hF
    subst hF
    rw[h7]
    obtain⟨v9,hS8⟩:=hSW
    rw[if_pos rfl,← HSN.out]at hS8
    have HS8:=Lib.hid (hS8.swap.tail)
    clear hS8 h7
    refine wpAny_done (by kernel_rfl) ?_ _
    try simp only[List.getElem_toArray,List.getElem_cons_succ,List.getElem_cons_zero]
    go_frame
    go_wp2_with fail
    go_roundw
    case rel=>exact⟨i+1,v9,by go_num,hil,HS8.out⟩
    case measure=>simp[intOf];omega
  ·have hie:i=bs.length:=by omega
   subst hie
   rw[List.take_length]at HSP
   have hg6:wr.heap[W2.heap.size]? = some (.cells #[.int .i64 c.f0,.int .i64 c.f1,.string c.f2,.slice A1 c.f3.length c1] 32 (0,0)):=(hspan.1 _ (by have:=HS1.out;have:=HSZ.out;omega) (by have:=HSZ.out;omega)).trans HG3.out
   have hg4:wr.heap[W.heap.size]? = some (.cells #[.int .i64 0,.int .i64 0,.string (⟨#[]⟩:ByteArray),.slice none 0 0] 32 (0,0)):=(hspan.1 _ (Nat.le_refl _) (by have:=HS1.out;have:=HSZ.out;omega)).trans HG13.out
   obtain⟨⟨k0,k1,k2,k3⟩,_⟩:=box4 hg6
   obtain⟨⟨z0,z1,z2,z3⟩,f0,f1,f2,f3⟩:=box4 hg4
   have HG4:=Lib.hid hg4
   have hrow:Kd.R k32 32 wr W1.heap.size (fun k=>W1.heap.size≤k∧k < W2.heap.size) (.slice A1 c.f3.length c1) c.f3:=by
    have h3:=Kd.R_bound HR1.out
    refine Kd.R_mono (Kd.R_step h3 (fun k hk hl=>?_)) (fun k hk=>⟨hk.2.1,hk.2.2.1⟩)
    have h1:=hspan.1 k (by have:=HS1.out;have:=hk.2.1;omega) (by have:=HSZ.out;omega)
    exact h1.trans (HN3.out.block k hl)
   have HROW:=Lib.hid hrow
   clear hsep hspan hrow hg6 hg4
   go_wp2_with fail
   clear k0 k1 k2 k3 z0 z1 z2 z3 f0 f1 f2 f3
   refine bodyPost_ret (results_read _ _ W.heap.size _ _ _ _ _ rfl rfl (put4_same HG4.out (.int .i64 c.f0) (.int .i64 c.f1) (.string c.f2) (.slice A1 c.f3.length c1))) rfl ?_
   refine⟨v',.slice A1 c.f3.length c1,W1.heap.size,W2.heap.size,rfl,?_,by have:=HS1.out;omega⟩
   refine Drum.Sep.swap (HSP.out.swap.turn (t':=rowT (fun k=>W1.heap.size≤k∧k < W2.heap.size) W1.heap.size (.slice A1 c.f3.length c1) c.f3) ((put4_mod wr W.heap.size _ _ _ _).mono (fun k e=>?_)) ⟨?_,fun k hk=>?_⟩ (fun k hk=> .inl ?_))
   ·subst e;exact⟨Nat.le_refl _,by have:=HS1.out;have:=HSZ.out;omega⟩
   ·exact Kd.R_step HROW.out (fun k hk hl=>put4_far (by have:=HS1.out;omega) _ _ _ _)
   ·have:=HSP.out.swap
    have h2:W3.heap.size≤wr.heap.size:=(HSP.out.all (spanT W.heap.size W3.heap.size W3) (by simp)).1.2
    show k < (put4 wr W.heap.size _ _ _ _).heap.size
    rw[put4_size];have:=HSZ.out;omega
   ·exact⟨by have:=HS1.out;have:=hk.1;omega,by have:=HSZ.out;have:=hk.2;omega⟩
end
end Go.Proofs.YtlmabbigfdbmbaaGreatDoor.PShelfNil
namespace Go.Proofs.YtlmabbigfdbmbaaGreatDoor.Shelf
open Go.RowKit Go.Proofs.YtlmabbigfdbmbaaGreatDoor.Ord Go.Proofs.YtlmabbigfdbmbaaGreatDoorW.PrintWords Go.Proofs.YtlmabbigfdbmbaaGreatDoor.Base Go.Proofs.YtlmabbigfdbmbaaGreatDoor.Drum Go.Proofs.YtlmabbigfdbmbaaGreatDoor.Tape
attribute [local go_sem] rdl_const rdl_func rdl_global rdl_nil rdl_cons
attribute [local irreducible] OpGives
def twrite(T:TS)(D:DS)(s:List UInt8):Int × TS × DS:=if (T.append D s).1=0 then TS.settle (T.append D s).2.1 (T.append D s).2.2 else T.append D s
section
variable{B:Nat}{w W:World}{l:List Thing}{sb tb pb b:Nat}{v:Value}{S:SS}{T:TS}{D:DS}{t:Thing}{f:ByteArray→Nat}
set_option maxHeartbeats 4000000 in
set_option maxRecDepth 100000 in
theorem swrite_sep(h:Sep B w W (tapeT tb b T :: t :: shelfM sb tb pb v S f :: l))(ht:IsDrum b D t)(hn:D.loose.length≤400000)(s:ByteArray)(hs:s.size≤1000000)(ha:T.at_≤D.sure.length)(hl:T.life < 9223372036854775808)(hc:T.count≤1000000) :
  Calls Tryz.prog 62 #[.pointer (some ⟨sb,0,none⟩),.string s] W (TDid B w (shelfM sb tb pb v S f :: l) tb b (twrite T D s.data.toList)):=by
 have hp:∀ {W':World} {T':TS} {t':Thing},Sep B w W' (tapeT tb b T' :: t' :: shelfM sb tb pb v S f :: l)→ShelfAt W' sb tb pb v S f:=fun h=>(h.all (shelfM sb tb pb v S f) (by simp)).1
 have c0:=(hp h).c0
 have HA:=Lib.hid (append_tape h ht (by omega) s hs ha hl hc)
 have hle:=(append_len T D s.data.toList).2
 have hnl:=needN_le s.data.toList.length
 rw[← Lib.size_eq]at hnl hle
 have HLE:=Lib.hid (show(T.append D s.data.toList).2.2.loose.length≤1000000 by omega)
 have HP:=Lib.hid (fun W' T' t'=>hp (W':=W') (T':=T') (t':=t'))
 unfold twrite
 generalize T.append D s.data.toList=R at HA HLE ⊢
 obtain⟨r,T1,D1⟩:=R
 simp only at HLE HA ⊢
 clear h hp hle hnl hs ha hl hc hn ht
 by_cases h0:r=0
 ·subst h0
  rw[if_pos rfl]
  go_enter Tryz.func62,Tryz.ntmps62
  go_wp2_with fail
  refine HA.out.mono ?_
  rintro e W1 ⟨t1,rfl,ht1,hS1⟩
  simp only at hS1 ht1 ⊢
  have HS1:=Lib.hid hS1
  have HT1:=Lib.hid ht1
  have d0:=(HP.out _ _ _ hS1).c0
  clear hS1 ht1 c0
  go_wp2_with fail
  refine(tsettle_tape HS1.out HT1.out HLE.out).mono ?_
  rintro e W2 ⟨t2,rfl,ht2,hS2⟩
  have HS2:=Lib.hid hS2
  clear hS2
  go_wp2_with fail
  go_ret
  exact⟨t2,rfl,ht2,HS2.out⟩
 ·rw[if_neg h0]
  have hb:(r == 0)=false:=by simpa using h0
  go_enter Tryz.func62,Tryz.ntmps62
  go_wp2_with fail
  refine HA.out.mono ?_
  rintro e W1 ⟨t1,rfl,ht1,hS1⟩
  simp only at hS1 ht1 ⊢
  have HS1:=Lib.hid hS1
  clear hS1 c0
  go_wp2_with fail
  go_ret
  exact⟨t1,rfl,ht1,HS1.out⟩
end
end Go.Proofs.YtlmabbigfdbmbaaGreatDoor.Shelf
namespace Go.Proofs.YtlmabbigfdbmbaaGreatDoor.PShelfNil
open Go.RowKit Go.Proofs.YtlmabbigfdbmbaaGreatDoor.Ord Go.Proofs.YtlmabbigfdbmbaaGreatDoor.Obj Go.Proofs.YtlmabbigfdbmbaaGreatDoorW.PrintWords Go.Proofs.YtlmabbigfdbmbaaGreatDoorW.PrintLast Go.Proofs.YtlmabbigfdbmbaaGreatDoorW.PrintMore Go.Proofs.YtlmabbigfdbmbaaGreatDoor.Shelf
attribute [local irreducible] OpGives
attribute [local go_sem] rdl_const rdl_func rdl_global rdl_nil rdl_cons
def batchB(S:SS)(c:S32):List UInt8:=putB (checkR (batchX S c)) (batchX S c)
def commitS(S:SS)(T:Tape.TS)(D:Drum.DS)(c:S32):Int × SS × Tape.TS × Drum.DS:=
 if okS 16 c=true∧deepS c≤14 then
  if 4095 < S.things.length - S.sure then (5,S,T,D)
  else if (twrite T D (batchB S c)).1=0 then (0,⟨S.things,S.things.length,S.ups⟩,(twrite T D (batchB S c)).2.1,(twrite T D (batchB S c)).2.2)
  else ((twrite T D (batchB S c)).1,S.drop,(twrite T D (batchB S c)).2.1,(twrite T D (batchB S c)).2.2)
 else (2,S,T,D)
def CommitPost(B:Nat)(w:World)(l:List Drum.Thing)(sb tb pb b:Nat)(r:Int × SS × Tape.TS × Drum.DS)(e:Ending)(W':World):Prop:=
 ∃ v t,e = .returned (.int .i64 r.1)∧Drum.IsDrum b r.2.2.2 t∧Drum.Sep B w W' (shelfT sb tb pb v r.2.1 :: Tape.tapeT tb b r.2.2.1 :: t :: l)
section
variable{B:Nat}{w W:World}{l:List Drum.Thing}{sb tb pb b:Nat}{v:Value}{S:SS}{T:Tape.TS}{D:Drum.DS}{t:Drum.Thing}{f:ByteArray→Nat}
theorem shelf_sured{A:Option Addr}{n c:Nat}(h:ShelfAt W sb tb pb (.slice A n c) S f)(hn:n=S.things.length):ShelfAt (W.setCell ⟨sb,3,none⟩ (.int .i64 (n:Int))) sb tb pb (.slice A n c) ⟨S.things,S.things.length,S.ups⟩ f:=by
 subst hn
 refine⟨Drum.cells_set h.box 3 _,?_,h.map.kept (G:=fun k=>k=sb) (Drum.Mod.setCell _ _ _ rfl) (fun e=>h.ne e.symm),h.ne,h.nv,h.nm⟩
 exact Drum.ownsRow_mod h.row (Drum.Mod.setCell (F:=fun k=>k=sb) W ⟨sb,3,none⟩ _ rfl) (fun k hk e=>h.nv (by rw[hk,e]))
theorem wf_fresh:∀ (L:List Th),(∀ x∈L,x.2.size≤65535)→wfL (L.map fun x=>textC x.2)
 | [],_=>by rw[List.map_nil,wfL];trivial
 | x :: L,h=>by
  rw[List.map_cons,wfL]
  refine⟨?_,wf_fresh L (fun y hy=>h y (List.mem_cons_of_mem _ hy))⟩
  have:=h x List.mem_cons_self
  unfold textC
  rw[wfS]
  refine⟨by decide,by decide,by omega,by simp,by rw[wfL];trivial⟩
theorem wf_batch{c:S32}(ok:S.ok)(hu:S.ups≤1000000)(hc:wfS c):wfS (batchX S c):=by
 have h1:wfL (freshC S):=wf_fresh _ (fun x hx=>(ok.2.2.2 x (List.mem_of_mem_drop hx)).2)
 have h2:(freshC S).length≤1000000:=by unfold freshC;rw[List.length_map,List.length_drop];have:=ok.2.2.1;omega
 unfold batchX listC
 rw[wfS,wfL,wfL,wfL,wfS]
 exact⟨by decide,by decide,by decide,by simp,hc,⟨by decide,by decide,by decide,by omega,h1⟩,trivial⟩
set_option maxHeartbeats 16000000 in
set_option maxRecDepth 100000 in
theorem scommit_sep(h:Drum.Sep B w W (shelfT sb tb pb v S :: Tape.tapeT tb b T :: t :: l))(ht:Drum.IsDrum b D t)(ok:S.ok)(hu:S.ups≤1000000)(c:S32)(Ac:Option Addr)(cc:Nat)(hC:Kd.C k32 W Ac c.f3.length c.f3)(hcc:c.f3.length≤cc)(hwf:wfS c)(hdp:deepS c≤1000000)
  (hn:D.loose.length≤400000) (hs:(batchB S c).length≤1000000) (ha:T.at_≤D.sure.length) (hl:T.life < 9223372036854775808) (hct:T.count≤1000000) :
  Calls Tryz.prog 18 #[.pointer (some ⟨sb,0,none⟩),.agg #[.int .i64 c.f0,.int .i64 c.f1,.string c.f2,.slice Ac c.f3.length cc]] W (CommitPost B w l sb tb pb b (commitS S T D c)):=by
 obtain⟨W1,hW1⟩:∃ W1,W1=W.alloc (.cells #[.int .i64 c.f0,.int .i64 c.f1,.string c.f2,.slice Ac c.f3.length cc] 32):=⟨_,rfl⟩
 have hn1:Below W.heap.size W W1:=by rw[hW1];exact(Below.refl _ _).alloc (Nat.le_refl _) _
 have hg1:W1.heap[W.heap.size]? = some (.cells #[.int .i64 c.f0,.int .i64 c.f1,.string c.f2,.slice Ac c.f3.length cc] 32 (0,0)):=by rw[hW1];exact alloc_lastV _ _
 obtain⟨⟨b0,b1,b2,b3⟩,_⟩:=box4 hg1
 have hS1:=h.grown hn1
 have hC1:=Kd.C_below hC hn1
 have HM:=Lib.hid (smade_at (ShelfAt.of hS1))
 have HCK:=Lib.hid (Check_calls c Ac cc W1 hC1 hcc)
 have HDP:=Lib.hid (fun W' (hW':Below W1.heap.size W1 W')=>depth_calls (SizeOf.sizeOf c+1) c (Nat.lt_succ_self _) hdp Ac cc W' (Kd.C_below hC1 hW'))
 have HFR:=Lib.hid (fun W' (hW':Drum.Sep B w W' (shelfT sb tb pb v S :: Tape.tapeT tb b T :: t :: l))=>sfresh_at (ShelfAt.of hW') ok.2.1 (by have:=ok.2.2.1;omega))
 have HBT:=Lib.hid (fun W' (hW':Below W1.heap.size W1 W')=>sbatch_at (ShelfAt.of (hS1.grown hW')) ok hu c Ac cc (Kd.C_below hC1 hW') hcc _ (wf_batch ok hu hwf) rfl (fun h0=>by
  have h1:batchB S c=encS (batchX S c):=by unfold batchB;rw[h0];unfold putB;rw[if_pos rfl]
  rw[← h1];omega))
 have HWR:=Lib.hid (fun W' (hW':Drum.Sep B w W' (Tape.tapeT tb b T :: t :: shelfM sb tb pb v S (place S.things) :: l))=>swrite_sep hW' ht hn ⟨(batchB S c).toArray⟩ (by rw[Lib.size_eq];exact hs) ha hl hct)
 have HS1:=Lib.hid hS1
 have HG1:=Lib.hid hg1
 have HT:=Lib.hid ht
 have HOK:=Lib.hid (And.intro ok hu)
 obtain⟨A,cp,rfl⟩:=(ShelfAt.of h).slice
 rw[hW1]at b0 b1 b2 b3
 have HW1:=Lib.hid hW1
 unfold checkR at HCK
 unfold commitS
 clear h ht ok hu hC hcc hwf hdp hn hs ha hl hct hW1 hn1 hg1 hS1 hC1
 by_cases hk:okS 16 c=true
 ·rw[hk]at HCK
  by_cases hd:deepS c≤14
  ·rw[if_pos ⟨hk,hd⟩]
   have hdd:decide ((14:Int) < (deepS c:Int))=false:=decide_eq_false (by omega)
   by_cases hf:4095 < S.things.length - S.sure
   ·rw[if_pos hf]
    have hff:decide ((4095:Int) < ((S.things.length - S.sure:Nat):Int))=true:=decide_eq_true (by omega)
    clear HWR HBT
    go_enter Tryz.func18,Tryz.ntmps18
    go_wp2_with fail
    rw[← HW1.out]
    refine HM.out.mono ?_
    rintro e W' ⟨rfl,hWW⟩
    cases hWW
    rw[HW1.out]
    go_wp2_with fail
    rw[← HW1.out]
    clear b0 b1 b2 b3
    refine HCK.out.mono ?_
    rintro e W2 ⟨rfl,hb2⟩
    obtain⟨⟨b0,b1,b2,b3⟩,_⟩:=box4 ((hb2.block _ (Array.getElem?_eq_some_iff.1 HG1.out).1).trans HG1.out)
    have HB2:=Lib.hid hb2
    clear hb2
    go_wp2_with fail
    refine(HDP.out W2 HB2.out).mono ?_
    rintro e W3 ⟨rfl,hb3⟩
    have HB3:=Lib.hid (HB2.out.trans (hb3.mono HB2.out.size))
    clear hb3 b0 b1 b2 b3
    go_wp2_with fail
    refine(HFR.out W3 (HS1.out.grown HB3.out)).mono ?_
    rintro e W4 ⟨rfl,nq,rfl⟩
    have HB4:=Lib.hid (show Below W1.heap.size W1 (W3.drewN nq)from Base.bdN' HB3.out)
    generalize W3.drewN nq=W4 at HB4 ⊢
    have HFIN:=Lib.hid (HS1.out.grown HB4.out)
    go_wp2_with fail
    go_ret
    exact⟨_,t,rfl,HT.out,HFIN.out⟩
   ·rw[if_neg hf]
    have hff:decide ((4095:Int) < ((S.things.length - S.sure:Nat):Int))=false:=decide_eq_false (by omega)
    have HOK2:=Lib.hid (show SS.ok ⟨S.things,S.things.length,S.ups⟩from⟨HOK.out.1.1,Nat.le_refl _,HOK.out.1.2.2.1,HOK.out.1.2.2.2⟩)
    have hdat:(⟨(batchB S c).toArray⟩:ByteArray).data.toList=batchB S c:=by simp
    simp only[hdat]at HWR
    unfold batchB at HWR ⊢
    unfold batchB at hdat
    clear hdat
    generalize twrite T D (putB (checkR (batchX S c)) (batchX S c))=R at HWR ⊢
    obtain⟨rc,T',D'⟩:=R
    simp only at HWR ⊢
    by_cases h0:rc=0
    ·subst h0
     rw[if_pos rfl]
     go_enter Tryz.func18,Tryz.ntmps18
     go_wp2_with fail
     rw[← HW1.out]
     refine HM.out.mono ?_
     rintro e W' ⟨rfl,hWW⟩
     cases hWW
     rw[HW1.out]
     go_wp2_with fail
     rw[← HW1.out]
     clear b0 b1 b2 b3
     refine HCK.out.mono ?_
     rintro e W2 ⟨rfl,hb2⟩
     obtain⟨⟨b0,b1,b2,b3⟩,_⟩:=box4 ((hb2.block _ (Array.getElem?_eq_some_iff.1 HG1.out).1).trans HG1.out)
     have HB2:=Lib.hid hb2
     clear hb2
     go_wp2_with fail
     refine(HDP.out W2 HB2.out).mono ?_
     rintro e W3 ⟨rfl,hb3⟩
     have HB3:=Lib.hid (HB2.out.trans (hb3.mono HB2.out.size))
     clear hb3 b0 b1 b2 b3
     go_wp2_with fail
     refine(HFR.out W3 (HS1.out.grown HB3.out)).mono ?_
     rintro e W4 ⟨rfl,nq,rfl⟩
     have HB4:=Lib.hid (show Below W1.heap.size W1 (W3.drewN nq)from Base.bdN' HB3.out)
     generalize W3.drewN nq=W4 at HB4 ⊢
     obtain⟨⟨b0,b1,b2,b3⟩,_⟩:=box4 ((HB4.out.block _ (Array.getElem?_eq_some_iff.1 HG1.out).1).trans HG1.out)
     go_wp2_with fail
     clear b0 b1 b2 b3
     refine(HBT.out W4 HB4.out).mono ?_
     rintro e W5 ⟨rfl,hb5⟩
     have HB5:=Lib.hid (HB4.out.trans (hb5.mono HB4.out.size))
     clear hb5
     go_wp2_with fail
     refine(HWR.out W5 ((HS1.out.grown HB5.out).perm (by exact List.perm_append_comm (l₁:=[_]) (l₂:=[_,_]) |>.append_right _))).mono ?_
     rintro e W6 ⟨t6,rfl,ht6,hS6⟩
     simp only at hS6 ht6 ⊢
     have hS7:=hS6.perm (l':=shelfM sb tb pb (.slice A S.things.length cp) S (place S.things) :: Tape.tapeT tb b T' :: t6 :: l) (by exact List.perm_append_comm (l₁:=[_,_]) (l₂:=[_]) |>.append_right _)
     have HT6:=Lib.hid ht6
     have e1:=(ShelfAt.ofM hS7).c1
     have e3:=(ShelfAt.ofM hS7).c3
     have f3:=(ShelfAt.ofM hS7).free 3
     have hS8:=hS7.turn (t':=shelfT sb tb pb (.slice A S.things.length cp) ⟨S.things,S.things.length,S.ups⟩) (Drum.Mod.setCell _ ⟨sb,3,none⟩ _ (.inl rfl)) (shelf_sured (ShelfAt.ofM hS7) rfl) (fun k hk=> .inl hk)
     have HS8:=Lib.hid hS8
     clear hS6 hS7 hS8 ht6
     go_wp2_with fail
     clear e1 e3 f3
     generalize W6.setCell ⟨sb,3,none⟩ (.int .i64 (S.things.length:Int))=W8 at HS8 ⊢
     have hdr:=sdrop_sep HS8.out HOK2.out HOK.out.2
     unfold SS.drop at hdr
     simp only[List.take_length]at hdr
     refine hdr.mono ?_
     rintro e W9 ⟨v9,rfl,hS9⟩
     have HS9:=Lib.hid hS9
     clear hS9 hdr
     go_wp2_with fail
     go_ret
     exact⟨v9,t6,rfl,HT6.out,HS9.out⟩
    ·rw[if_neg h0]
     have hb:(rc == 0)=false:=by simpa using h0
     go_enter Tryz.func18,Tryz.ntmps18
     go_wp2_with fail
     rw[← HW1.out]
     refine HM.out.mono ?_
     rintro e W' ⟨rfl,hWW⟩
     cases hWW
     rw[HW1.out]
     go_wp2_with fail
     rw[← HW1.out]
     clear b0 b1 b2 b3
     refine HCK.out.mono ?_
     rintro e W2 ⟨rfl,hb2⟩
     obtain⟨⟨b0,b1,b2,b3⟩,_⟩:=box4 ((hb2.block _ (Array.getElem?_eq_some_iff.1 HG1.out).1).trans HG1.out)
     have HB2:=Lib.hid hb2
     clear hb2
     go_wp2_with fail
     refine(HDP.out W2 HB2.out).mono ?_
     rintro e W3 ⟨rfl,hb3⟩
     have HB3:=Lib.hid (HB2.out.trans (hb3.mono HB2.out.size))
     clear hb3 b0 b1 b2 b3
     go_wp2_with fail
     refine(HFR.out W3 (HS1.out.grown HB3.out)).mono ?_
     rintro e W4 ⟨rfl,nq,rfl⟩
     have HB4:=Lib.hid (show Below W1.heap.size W1 (W3.drewN nq)from Base.bdN' HB3.out)
     generalize W3.drewN nq=W4 at HB4 ⊢
     obtain⟨⟨b0,b1,b2,b3⟩,_⟩:=box4 ((HB4.out.block _ (Array.getElem?_eq_some_iff.1 HG1.out).1).trans HG1.out)
     go_wp2_with fail
     clear b0 b1 b2 b3
     refine(HBT.out W4 HB4.out).mono ?_
     rintro e W5 ⟨rfl,hb5⟩
     have HB5:=Lib.hid (HB4.out.trans (hb5.mono HB4.out.size))
     clear hb5
     go_wp2_with fail
     refine(HWR.out W5 ((HS1.out.grown HB5.out).perm (by exact List.perm_append_comm (l₁:=[_]) (l₂:=[_,_]) |>.append_right _))).mono ?_
     rintro e W6 ⟨t6,rfl,ht6,hS6⟩
     simp only at hS6 ht6 ⊢
     have hS7:=hS6.perm (l':=shelfM sb tb pb (.slice A S.things.length cp) S (place S.things) :: Tape.tapeT tb b T' :: t6 :: l) (by exact List.perm_append_comm (l₁:=[_,_]) (l₂:=[_]) |>.append_right _)
     have HT6:=Lib.hid ht6
     have HS7:=Lib.hid hS7
     clear hS6 hS7 ht6
     go_wp2_with fail
     refine(sdrop_sep HS7.out HOK.out.1 HOK.out.2).mono ?_
     rintro e W9 ⟨v9,rfl,hS9⟩
     have HS9:=Lib.hid hS9
     clear hS9
     go_wp2_with fail
     go_ret
     exact⟨v9,t6,rfl,HT6.out,HS9.out⟩
  ·rw[if_neg (fun x=>hd x.2)]
   have hdd:decide ((14:Int) < (deepS c:Int))=true:=decide_eq_true (by omega)
   clear HWR HBT HFR
   go_enter Tryz.func18,Tryz.ntmps18
   go_wp2_with fail
   rw[← HW1.out]
   refine HM.out.mono ?_
   rintro e W' ⟨rfl,hWW⟩
   cases hWW
   rw[HW1.out]
   go_wp2_with fail
   rw[← HW1.out]
   clear b0 b1 b2 b3
   refine HCK.out.mono ?_
   rintro e W2 ⟨rfl,hb2⟩
   obtain⟨⟨b0,b1,b2,b3⟩,_⟩:=box4 ((hb2.block _ (Array.getElem?_eq_some_iff.1 HG1.out).1).trans HG1.out)
   have HB2:=Lib.hid hb2
   clear hb2
   go_wp2_with fail
   refine(HDP.out W2 HB2.out).mono ?_
   rintro e W3 ⟨rfl,hb3⟩
   have hfin:=HS1.out.grown (HB2.out.trans (hb3.mono HB2.out.size))
   have HFIN:=Lib.hid hfin
   clear hfin hb3
   go_wp2_with fail
   go_ret
   exact⟨_,t,rfl,HT.out,HFIN.out⟩
 ·rw[if_neg (fun x=>hk x.1)]
  have hkf:okS 16 c=false:=by simpa using hk
  rw[hkf]at HCK
  clear HWR HBT HFR HDP
  go_enter Tryz.func18,Tryz.ntmps18
  go_wp2_with fail
  rw[← HW1.out]
  refine HM.out.mono ?_
  rintro e W' ⟨rfl,hWW⟩
  cases hWW
  rw[HW1.out]
  go_wp2_with fail
  rw[← HW1.out]
  clear b0 b1 b2 b3
  refine HCK.out.mono ?_
  rintro e W2 ⟨rfl,hb2⟩
  have HFIN:=Lib.hid (HS1.out.grown hb2)
  clear hb2
  go_wp2_with fail
  go_ret
  exact⟨_,t,rfl,HT.out,HFIN.out⟩
end
end Go.Proofs.YtlmabbigfdbmbaaGreatDoor.PShelfNil
namespace Go.Proofs.YtlmabbigfdbmbaaGreatDoor.Tape
open Go.RowKit Go.Proofs.YtlmabbigfdbmbaaGreatDoor.Ord Go.Proofs.YtlmabbigfdbmbaaGreatDoorW.PrintWords Go.Proofs.YtlmabbigfdbmbaaGreatDoor.Base Go.Proofs.YtlmabbigfdbmbaaGreatDoor.Drum
attribute [local irreducible] OpGives
theorem scanN_none{D:DS}{at_ was:Nat}{out:List (List UInt8)}(h:DS.rec D at_ (out.length+1)=none):∀ k,DS.scanN D k at_ was out=(out,at_)
 | 0=>rfl
 | k+1=>by rw[DS.scanN,h]
theorem scanN_lt{D:DS}{at_ was life:Nat}{out o:List (List UInt8)}(h:DS.rec D at_ (out.length+1)=some (o,life))(hl:life < was):∀ k,DS.scanN D k at_ was out=(out,at_)
 | 0=>rfl
 | k+1=>by rw[DS.scanN,h];simp only[hl,if_true]
theorem scanN_more{D:DS}{at_ was life:Nat}{out o:List (List UInt8)}(h:DS.rec D at_ (out.length+1)=some (o,life))(hl:¬ life < was)(k:Nat):DS.scanN D (k+1) at_ was out=DS.scanN D k (at_+o.length) life (out ++ [o.flatten]):=by
 rw[DS.scanN,h];simp only[hl,if_false]
theorem recV_some(o:List (List UInt8))(l:Nat):recV (some (o,l))=(o.flatten,l,o.length):=rfl
theorem recV_none:recV none=([],0,0):=rfl
def ScanR(D:DS)(w:World)(N:Nat)(v a q:Value)(wr:World):Prop:=
 ∃ (outs:List (List UInt8)) (at_ was k:Nat),a = .int .i64 (at_:Int)∧q = .int .i64 (was:Int)∧wr.ownsRow w.heap.size 9 1 v outs.length (strs outs)∧at_≤N∧N≤at_+k∧outs.length≤at_∧DS.scan D=DS.scanN D k at_ was outs∧NewMem w wr
set_option maxRecDepth 100000 in
set_option maxHeartbeats 8000000 in
theorem scan_at(b sb cap:Nat)(lv:Value)(D:DS)(w:World)(h:DrumAt w b sb cap lv D)(hd:D.down=false)(hn:D.loose.length≤1000000) :
  Calls Tryz.prog 88 #[.pointer (some ⟨b,0,none⟩)] w fun e w'=>∃ v,e = .returned (.tuple #[v,.int .i64 ((DS.scan D).2:Int),.int .i64 (DS.great D:Int),.int .i64 0])∧w'.ownsRow w.heap.size 9 1 v (DS.scan D).1.length (strs (DS.scan D).1)∧NewMem w w':=by
 have hr:=ready_at b sb cap lv D w h
 rw[hd,if_neg (by decide)]at hr
 have HRD:=Lib.hid hr
 clear hr
 obtain⟨N,hN⟩:∃ N,N=D.sure.length:=⟨_,rfl⟩
 have hfew:=h.few
 have hrl:∀ (at_ n:Nat) (o:List (List UInt8)) (l:Nat),DS.rec D at_ n=some (o,l)→at_≤N→at_+o.length≤N∧0 < o.length:=fun at_ n o l hx ha=>by
  have:=rec_len hx;omega
 have hrec:∀ (W:World) (at_ n:Nat),NewMem w W→at_≤N→Calls Tryz.prog 124 #[.pointer (some ⟨b,0,none⟩),.int .i64 (at_:Int),.int .i64 (n:Int)] W fun e w'=>e = .returned (.tuple #[.string ⟨(recV (DS.rec D at_ n)).1.toArray⟩,.int .i64 ((recV (DS.rec D at_ n)).2.1:Int),.int .i64 ((recV (DS.rec D at_ n)).2.2:Int)])∧NewMem W w':=fun W at_ n hW ha=>by
  unfold DS.rec
  exact record_at b sb cap lv D at_ n W (h.kept (F:=fun _=>False) (Mod.of_below hW) (fun _ _=>id)) hd hn (by omega)
 have hgr:∀ W,NewMem w W→Calls Tryz.prog 125 #[.pointer (some ⟨b,0,none⟩)] W fun e w'=>e = .returned (.int .i64 (DS.great D:Int))∧NewMem W w':=fun W hW=>
  greatest_at b sb cap lv D W (h.kept (F:=fun _=>False) (Mod.of_below hW) (fun _ _=>id)) hd hn
 have hstart:ScanR D w N (.slice none 0 0) (.int .i64 0) (.int .i64 1) w:=⟨[],0,1,D.sure.length,rfl,rfl,World.ownsRow_nil _ _ _ _,by omega,by omega,by simp,rfl,NewMem.refl _⟩
 have HST:=Lib.hid hstart
 have HREC:=Lib.hid hrec
 have HRL:=Lib.hid hrl
 have HGR:=Lib.hid hgr
 have hfew':N≤4096:=by omega
 have HF:=Lib.hid hfew'
 clear hrec hgr hN h hd hn hfew hstart hrl hfew'
 go_enter Tryz.func88,Tryz.ntmps88
 go_wp2_with fail
 refine HRD.out.mono ?_
 clear HRD
 rintro e w' ⟨rfl,rfl⟩
 go_wp2_with fail
 go_loopw [7,8,9] (fun v a q wr=>ScanR D w' N v a q wr) (fun _ a _ _=>N - (intOf a).toNat)
 case atStart=>exact HST.out
 case round=>
  obtain⟨outs,at_,was,k,rfl,rfl,hown,hle,hfuel,hout,hscan,hbel⟩:=hrel
  have hi:(Tryz.prog.info? 9).map (fun i=>(i.zero,i.size,i.bytes))=some (some (Value.string ⟨#[]⟩),1,16):=by kernel_rfl
  obtain⟨i0,hi0,hz0,hz1,hz2⟩:=info_parts hi
  have hlen:outs.length≤4096:=by have:=HF.out;omega
  obtain⟨sa,scp,hv⟩:∃ a cp,u7 = .slice a outs.length cp:=by
   rcases hown.2 with ⟨e,h0⟩ | ⟨g,cp,cur,e,_⟩
   ·exact⟨none,0,by rw[e,h0]⟩
   ·exact⟨_,cp,e⟩
  subst hv
  have hadd:wrap64 ((outs.length:Int)+1)=((outs.length+1:Nat):Int):=w_one (by omega)
  have hr:=HREC.out wr at_ (outs.length+1) hbel hle
  rw[show((outs.length+1:Nat):Int)=(outs.length:Int)+1 by omega]at hr
  have HOWN:=Lib.hid hown
  have HSC:=Lib.hid hscan
  have HB:=Lib.hid hbel
  have HLE:=Lib.hid hle
  have HFU:=Lib.hid hfuel
  have HOU:=Lib.hid hout
  have hend:∀ W1 W2,NewMem wr W1→NewMem W1 W2→DS.scan D=(outs,at_)→w'.ownsRow w'.heap.size 9 1 (.slice none 0 0) 0 []→∃ v,Ending.returned (.tuple #[.slice sa outs.length scp,.int .i64 (at_:Int),.int .i64 (DS.great D:Int),.int .i64 0]) = .returned (.tuple #[v,.int .i64 ((DS.scan D).2:Int),.int .i64 (DS.great D:Int),.int .i64 0])∧W2.ownsRow w'.heap.size 9 1 v (DS.scan D).1.length (strs (DS.scan D).1)∧NewMem w' W2:=fun W1 W2 h1 h2 he _=>by
   rw[he]
   have h12:NewMem wr W2:=NewMem.trans h1 h2
   exact⟨_,rfl,ownsRow_mod HOWN.out (Mod.of_below (F:=fun _=>False) h12) (fun _ _=>id),NewMem.trans HB.out h12⟩
  have HEND:=Lib.hid hend
  clear hown hscan hbel hle hfuel hout hend hadd
  cases hx:DS.rec D at_ (outs.length+1)with
  | none=>
   rw[hx,recV_none]at hr
   have hdone:DS.scan D=(outs,at_):=HSC.out.trans (scanN_none hx k)
   have HD:=Lib.hid hdone
   have HR:=Lib.hid hr
   clear hx hr hdone
   go_wp2_with fail
   refine HR.out.mono ?_
   rintro e W1 ⟨rfl,hn1⟩
   have HN1:=Lib.hid hn1
   have hg:=HGR.out W1 (NewMem.trans HB.out hn1)
   have HG:=Lib.hid hg
   clear hg hn1
   go_wp2_with fail
   refine HG.out.mono ?_
   rintro e W2 ⟨rfl,hn2⟩
   have HN2:=Lib.hid hn2
   clear hn2
   go_wp2_with fail
   refine bodyPost_ret (v:=.tuple #[.slice sa outs.length scp,.int .i64 (at_:Int),.int .i64 (DS.great D:Int),.int .i64 0]) (by simp[results,Tryz.f88,go_sem]) rfl ?_
   exact HEND.out W1 W2 HN1.out HN2.out HD.out (World.ownsRow_nil _ _ _ _)
  | some y=>
   obtain⟨o,life⟩:=y
   rw[hx,recV_some]at hr
   have hol:=HRL.out _ _ _ _ hx HLE.out
   have hne:((o.length:Int) == 0)=false:=beq_eq_false_iff_ne.2 (by omega)
   by_cases hlt:life < was
   ·have hdone:DS.scan D=(outs,at_):=HSC.out.trans (scanN_lt hx hlt k)
    have HD:=Lib.hid hdone
    have HR:=Lib.hid hr
    have hlti:decide (life < was)=true:=decide_eq_true hlt
    clear hx hr hdone hol
    go_wp2_with fail
    refine HR.out.mono ?_
    rintro e W1 ⟨rfl,hn1⟩
    have HN1:=Lib.hid hn1
    have hg:=HGR.out W1 (NewMem.trans HB.out hn1)
    have HG:=Lib.hid hg
    clear hg hn1
    go_wp2_with fail
    refine HG.out.mono ?_
    rintro e W2 ⟨rfl,hn2⟩
    have HN2:=Lib.hid hn2
    clear hn2
    go_wp2_with fail
    refine bodyPost_ret (v:=.tuple #[.slice sa outs.length scp,.int .i64 (at_:Int),.int .i64 (DS.great D:Int),.int .i64 0]) (by simp[results,Tryz.f88,go_sem]) rfl ?_
    exact HEND.out W1 W2 HN1.out HN2.out HD.out (World.ownsRow_nil _ _ _ _)
   ·have hk:∃ k',k=k'+1:=⟨k - 1,by have:=HFU.out;omega⟩
    obtain⟨k',rfl⟩:=hk
    have hdone:DS.scan D=_:=HSC.out.trans (scanN_more hx hlt k')
    have HD:=Lib.hid hdone
    have HR:=Lib.hid hr
    have hlti:decide (life < was)=false:=decide_eq_false hlt
    have hadd:wrap64 ((at_:Int)+(o.length:Int))=((at_+o.length:Nat):Int):=w_add (by have:=HF.out;omega)
    have HOL:=Lib.hid hol
    clear hx hr hdone hol hlt
    go_wp2_with fail
    refine HR.out.mono ?_
    rintro e W1 ⟨rfl,hn1⟩
    have hsz1:=hn1.size
    have hszr:=HB.out.size
    have hown1:W1.ownsRow w'.heap.size 9 1 (.slice sa outs.length scp) outs.length (strs outs):=ownsRow_mod HOWN.out (Mod.of_below (F:=fun _=>False) hn1) (fun _ _=>id)
    have HB1:=Lib.hid (NewMem.trans HB.out hn1)
    clear hn1
    go_wp2_with (at_builtin;refine wpList_append_own _ rfl _ _ 25 rfl w'.heap.size 9 i0 (.string ⟨#[]⟩) 1 16 Tryz.underlying25 hi0 hz0 hz1 hz2 rfl (by decide) _ _ _ rfl (hown1.alloc _) ⟨W1.heap.size,0,none⟩ 1 1 [.string ⟨o.flatten.toArray⟩] rfl rfl ?c1 ?c2 ?c3 ?c4 ?c5 ?_)
    case c1=>exact World.news_of_block (by simpa using heap_alloc_last W1 (.cells #[.string ⟨o.flatten.toArray⟩] 9))
    case c2=>exact fun u hu=>by rw[List.mem_singleton.1 hu];rfl
    case c3=>unfold maxLen;omega
    case c4=>omega
    case c5=>rw[World.size_alloc];omega
    intro v' W2 hown' hgrow _
    have hb2:Below w'.heap.size w' W2:=((show Below w'.heap.size w' W1 from HB1.out).alloc (by omega) _).grown hgrow (by simp;omega) (fun j hj=>(hown1.lt j hj).1)
    have HB2:=Lib.hid hb2
    have HOW:=Lib.hid hown'
    clear hgrow hb2 hown1 hown'
    go_wp2_with fail
    go_roundw
    case rel=>
     refine⟨outs ++ [o.flatten],at_+o.length,life,k',by go_num,rfl,?_,HOL.out.1,by have:=HFU.out;have:=HOL.out;omega,?_,HD.out,HB2.out⟩
     ·have:=HOW.out
      rw[strs_snoc,List.length_append]
      exact this
     ·rw[List.length_append,List.length_singleton];have:=HOU.out;have:=HOL.out;omega
    case measure=>
     have hm:N - (at_+o.length) < N - at_:=by have:=HOL.out;omega
     rw[hadd]
     simp only[intOf,Int.toNat_natCast]
     exact hm
end Go.Proofs.YtlmabbigfdbmbaaGreatDoor.Tape
namespace Go.Proofs.YtlmabbigfdbmbaaGreatDoor.Tape
open Go.RowKit Go.Proofs.YtlmabbigfdbmbaaGreatDoor.Ord Go.Proofs.YtlmabbigfdbmbaaGreatDoorW.PrintWords Go.Proofs.YtlmabbigfdbmbaaGreatDoor.Base Go.Proofs.YtlmabbigfdbmbaaGreatDoor.Drum
attribute [local go_sem] rdl_const rdl_func rdl_global rdl_nil rdl_cons
attribute [local irreducible] OpGives
def textsT(v:Value)(l:List (List UInt8)):Thing where
 P:=fun W=>W.ownsRow 0 9 1 v l.length (strs l)
 F:=fun k=>v.ownBlock=some k
 kept:=fun W W' G h hm hG=>ownsRow_mod h hm hG
 lt:=fun W h k hk=>(h.lt k hk).2
theorem owns_low{w:World}{base:Nat}{e:TypeId}{size:Nat}{v:Value}{n:Nat}{xs:List Value}(h:w.ownsRow base e size v n xs):w.ownsRow 0 e size v n xs:=by
 refine⟨h.1,?_⟩
 rcases h.2 with hn | ⟨g,cap,cur,rfl,hb,hg,rest⟩
 ·exact .inl hn
 ·exact .inr ⟨g,cap,cur,rfl,Nat.zero_le _,hg,rest⟩
theorem texts_slice{W:World}{v:Value}{l:List (List UInt8)}(h:(textsT v l).P W):∃ a cp,v = .slice a l.length cp:=by
 rcases h.2 with ⟨e,h0⟩ | ⟨g,cp,cur,e,_⟩
 ·exact⟨none,0,by rw[e,h0]⟩
 ·exact⟨_,cp,e⟩
section
variable{B:Nat}{w W:World}{l:List Thing}{tb b:Nat}{D:DS}{t:Thing}
theorem scan_sep(h:Sep B w W (t :: l))(ht:IsDrum b D t)(hd:D.down=false)(hn:D.loose.length≤1000000) :
  Calls Tryz.prog 88 #[.pointer (some ⟨b,0,none⟩)] W fun e W'=>∃ v,e = .returned (.tuple #[v,.int .i64 ((DS.scan D).2:Int),.int .i64 (DS.great D:Int),.int .i64 0])∧Sep B w W' (textsT v (DS.scan D).1 :: t :: l):=by
 obtain⟨sb,cap,lv,rfl⟩:=ht
 refine(scan_at b sb cap lv D W (h.all _ List.mem_cons_self).1 hd hn).mono fun e W' ⟨v,he,ho,hw⟩=>⟨v,he,?_⟩
 exact h.new hw (t:=textsT v (DS.scan D).1) (owns_low ho) (fun k hk=>(ho.lt k hk).1)
theorem scan_down(h:Sep B w W (t :: l))(ht:IsDrum b D t)(hd:D.down=true) :
  Calls Tryz.prog 88 #[.pointer (some ⟨b,0,none⟩)] W fun e W'=>e = .returned (.tuple #[.slice none 0 0,.int .i64 0,.int .i64 0,.int .i64 9])∧W'=W:=by
 obtain⟨sb,cap,lv,rfl⟩:=ht
 have hr:=ready_at b sb cap lv D W (h.all _ List.mem_cons_self).1
 rw[hd,if_pos rfl]at hr
 clear h hd
 go_enter Tryz.func88,Tryz.ntmps88
 go_wp2_with fail
 refine hr.mono ?_
 rintro e w' ⟨rfl,rfl⟩
 go_wp2
 refine bodyPost_ret (v:=.tuple #[.slice none 0 0,.int .i64 0,.int .i64 0,.int .i64 9]) (by simp[results,Tryz.f88,go_sem]) rfl ?_
 exact⟨rfl,rfl⟩
def DS.tape(D:DS):TS:=⟨(DS.scan D).1.length,DS.great D+1,(DS.scan D).2,0⟩
def OpenFail(B:Nat)(w:World)(l:List Thing)(k:Int)(e:Ending)(W':World):Prop:=e = .returned (.tuple #[.pointer none,.slice none 0 0,.int .i64 k])∧Sep B w W' l
def OpenOk(B:Nat)(w:World)(l:List Thing)(b:Nat)(D:DS)(e:Ending)(W':World):Prop:=∃ tb v,e = .returned (.tuple #[.pointer (some ⟨tb,0,none⟩),v,.int .i64 0])∧Sep B w W' (tapeT tb b (DS.tape D) :: textsT v (DS.scan D).1 :: l)
def Opened(B:Nat)(w:World)(l:List Thing)(b:Nat)(D:DS):Ending→World→Prop:=
 if D.down=true then OpenFail B w l 9 else if DS.great D=4294967295 then OpenFail B w l 5 else OpenOk B w l b D
set_option maxHeartbeats 4000000 in
theorem open_sep(h:Sep B w W (t :: l))(ht:IsDrum b D t)(hn:D.loose.length≤1000000)(hgr:DS.great D < 4294967296) :
  Calls Tryz.prog 57 #[.pointer (some ⟨b,0,none⟩)] W (Opened B w (t :: l) b D):=by
 unfold Opened
 by_cases hd:D.down=true
 ·have hs:=Lib.hid (scan_down h ht hd)
  have H:=Lib.hid h
  rw[if_pos hd]
  clear h hd hgr
  go_enter Tryz.func57,Tryz.ntmps57
  go_wp2_with fail
  refine hs.out.mono ?_
  rintro e w' ⟨rfl,rfl⟩
  go_wp2
  refine bodyPost_ret (v:=.tuple #[.pointer none,.slice none 0 0,.int .i64 9]) (by simp[results,Tryz.f57,go_sem]) rfl ?_
  exact⟨rfl,H.out⟩
 ·have hs:=Lib.hid (scan_sep h ht (by simpa using hd) hn)
  rw[if_neg hd]
  by_cases hg:DS.great D=4294967295
  ·rw[if_pos hg]
   have hgi:(DS.great D:Int)=4294967295:=by omega
   rw[hgi]at hs
   clear h hd hgr hg hgi
   go_enter Tryz.func57,Tryz.ntmps57
   go_wp2_with fail
   refine hs.out.mono ?_
   rintro e W1 ⟨v,rfl,hs1⟩
   have HS1:=Lib.hid hs1
   clear hs1
   go_wp2
   refine bodyPost_ret (v:=.tuple #[.pointer none,.slice none 0 0,.int .i64 5]) (by simp[results,Tryz.f57,go_sem]) rfl ?_
   exact⟨rfl,HS1.out.tail⟩
  ·rw[if_neg hg]
   have hgi:((DS.great D:Int) == 4294967295)=false:=by simp;omega
   have hwr:wrap64 ((DS.great D:Int)+1)=((DS.great D+1:Nat):Int):=w_one (by omega)
   unfold OpenOk DS.tape
   generalize DS.great D=gr at *
   clear h hd hgr hg
   go_enter Tryz.func57,Tryz.ntmps57
   go_wp2_with fail
   refine hs.out.mono ?_
   rintro e W1 ⟨v,rfl,hs1⟩
   obtain⟨a,cp,rfl⟩:=texts_slice (sep_head hs1)
   have HS1:=Lib.hid hs1
   clear hs1
   go_wp2_with fail
   refine bodyPost_ret (v:=.tuple #[.pointer (some ⟨W1.heap.size,0,none⟩),.slice a (DS.scan D).1.length cp,.int .i64 0]) (by simp[results,Tryz.f57,go_sem]) rfl ?_
   rw[show(gr:Int)+1=((gr+1:Nat):Int)by omega]
   exact⟨_,_,rfl,HS1.out.new (NewMem.alloc _ _) (heap_alloc_last _ _) (fun k hk=>by rw[hk];exact Nat.le_refl _)⟩
end
end Go.Proofs.YtlmabbigfdbmbaaGreatDoor.Tape
namespace Go.Proofs.YtlmabbigfdbmbaaGreatDoor.PShelfNil
open Go.RowKit Go.Proofs.YtlmabbigfdbmbaaGreatDoor.Ord Go.Proofs.YtlmabbigfdbmbaaGreatDoor.Obj Go.Proofs.YtlmabbigfdbmbaaGreatDoorW.PrintWords Go.Proofs.YtlmabbigfdbmbaaGreatDoorW.PrintLast Go.Proofs.YtlmabbigfdbmbaaGreatDoorW.PrintMore Go.Proofs.YtlmabbigfdbmbaaGreatDoor.Shelf
attribute [local irreducible] OpGives
attribute [local go_sem] rdl_const rdl_func rdl_global rdl_nil rdl_cons
theorem sep_merge{B:Nat}{w W W':World}{a b t':Drum.Thing}{l:List Drum.Thing}(h:Drum.Sep B w W (a :: b :: l))(hm:Drum.Mod a.F W W')(ht:t'.P W')(hF:∀ k,t'.F k→a.F k∨b.F k∨W.heap.size≤k):Drum.Sep B w W' (t' :: l):=by
 have hp:=List.pairwise_cons.1 h.apart
 have hp2:=List.pairwise_cons.1 hp.2
 have h0:=h.all a List.mem_cons_self
 have h1:=h.all b (List.mem_cons_of_mem _ List.mem_cons_self)
 refine⟨h.below.trans (hm.below h.le h0.2),Nat.le_trans h.le hm.size,fun x hx=>?_,List.pairwise_cons.2 ⟨fun y hy k hk hy'=>?_,hp2.2⟩⟩
 ·rcases List.mem_cons.1 hx with rfl | hx
  ·exact⟨ht,fun k hk=>by rcases hF k hk with e | e | e;exact h0.2 k e;exact h1.2 k e;exact Nat.le_trans h.le e⟩
  ·have h2:=h.all x (List.mem_cons_of_mem _ (List.mem_cons_of_mem _ hx))
   exact⟨x.kept _ _ _ h2.1 hm (fun k hk hk'=>hp.1 x (List.mem_cons_of_mem _ hx) k hk' hk),h2.2⟩
 ·have hy0:=h.all y (List.mem_cons_of_mem _ (List.mem_cons_of_mem _ hy))
  rcases hF k hk with e | e | e
  ·exact hp.1 y (List.mem_cons_of_mem _ hy) k e hy'
  ·exact hp2.1 y hy k e hy'
  ·have:=y.lt _ hy0.1 k hy';omega
theorem append_itemO{W:World}{v:Value}{acc:List S32}{x:S32}{g:Nat}{v3:Value}{ok ok3:Nat→Prop}(hR:Kd.R k32 32 W 0 ok v acc)
  (hg:W.heap[g]? = some (.cells #[.int .i64 x.f0,.int .i64 x.f1,.string x.f2,v3] 32 (0,0))) (hr3:Kd.R k32 32 W 0 ok3 v3 x.f3) (hd:∀ k,ok3 k→some k≠v.ownBlock) (hn:acc.length≤1000000) (ty:TypeId) :
  ∃ v' W',(Builtin.append_ #[30,30] ty #[v,.slice (some ⟨g,0,none⟩) 1 1]).run Tryz.prog W = .ok v' W'∧W.grownBy W' v.ownBlock∧Kd.R k32 32 W' 0 (fun k=>ok k∨ok3 k∨(W.heap.size≤k∧k < W'.heap.size)) v' (acc ++ [x]):=by
 obtain⟨i0,hi0,hz0,hz1,hz2⟩:=info_parts infoCell
 have h1:=R_one hr3
 have hgs:=(Array.getElem?_eq_some_iff.1 hg).1
 obtain⟨h0,inner,hown,hreps⟩:=hR
 have hbn:(acc.length+1) * 56≤1000001 * 56:=Nat.mul_le_mul (by omega) (Nat.le_refl _)
 obtain⟨h,cap,W',hr,hown',hgr,hat,_⟩:=run_append_lies (P:=Tryz.prog) W 30 ty 0 32 i0 _ 4 56 Tryz.underlying30 hi0 hz0 hz1 hz2 (by rfl) (by decide) v acc.length _ hown ⟨g,0,none⟩ 1 1 [.int .i64 x.f0,.int .i64 x.f1,.string x.f2,v3]
  (by rfl) (World.news_of_block (cs:=#[.int .i64 x.f0,.int .i64 x.f1,.string x.f2,v3]) hg) (by
   intro u hu
   simp only[List.mem_cons,List.not_mem_nil,or_false]at hu
   rcases hu with rfl | rfl | rfl | rfl
   ·rfl
   ·rfl
   ·rfl
   ·exact h1) (by decide) (by unfold maxLen;omega) (by omega) (by omega) W.heap.size rfl
 have hm3:Kd.M k32 W 0 ok3 x [.int .i64 x.f0,.int .i64 x.f1,.string x.f2,v3]:=k32_mkM W 0 _ x hr3
 have hres:=Kd.R_appended (d:=k32) (e:=32) (base:=0) (ok:=fun k=>ok k∨ok3 k∨W.heap.size≤k) (W:=W) (w1:=W') (v:=v) (v1:=.slice (some ⟨h,0,none⟩) (acc.length+1) cap) (fun k hk=> .inl (h0 k hk))
  ⟨hreps.1,fun j p hj=>(k32).M_mono (fun k hk=>⟨.inl hk.1,hk.2⟩) (hreps.2 j p hj)⟩ hm3 (fun k hk=>⟨.inr (.inl hk),hd k hk⟩) (fun k hk=> .inr (.inr hk)) hown' hgr
  (hat.elim (fun e=> .inl (by rw[e];rfl)) (fun e=> .inr ⟨h,rfl,by omega⟩))
 exact⟨_,W',hr,hgr,Kd.R_mono (Kd.R_bound hres) (fun k hk=>by
  rcases hk.1 with e | e | e
  ·exact .inl e
  ·exact .inr (.inl e)
  ·exact .inr (.inr ⟨e,hk.2.2.1⟩))⟩
abbrev Bat:=S32 × List ByteArray
def recOk(r:List UInt8)(x:Bat):Prop:=takeR ⟨r.toArray⟩=(listC [x.1,listC (x.2.map textC)],0)∧deepS x.1≤14∧r.length≤1000000000
def openL:SS→List Bat→SS
 | S,[]=>S
 | S,x :: L=>openL (putAllB S x.2) L
def openOk:SS→List Bat→Prop
 | _,[]=>True
 | S,x :: L=>putsOk S x.2∧openOk (putAllB S x.2) L
def cntL:List Bat→Nat
 | []=>0
 | x :: L=>x.2.length+cntL L
theorem openL_snoc:∀ (L:List Bat) (S:SS) (x:Bat),openL S (L ++ [x])=putAllB (openL S L) x.2
 | [],S,x=>rfl
 | y :: L,S,x=>by rw[List.cons_append,openL,openL,openL_snoc L]
theorem putAllB_ok:∀ (bs:List ByteArray) (S:SS),putsOk S bs→S.ok→(putAllB S bs).ok∧(putAllB S bs).ups≤S.ups+bs.length
 | [],S,_,ok=>⟨ok,Nat.le_refl _⟩
 | b :: bs,S,hp,ok=>by
  have ih:=putAllB_ok bs _ hp.2.2.2 (SS.put_ok ok (by rw[sumB_size];exact Nat.le_refl _) hp.2.2.1)
  have:=put_ups S (sumB b) b
  rw[putAllB,List.length_cons]
  exact⟨ih.1,by omega⟩
theorem openOk_at:∀ (L:List Bat) (S:SS) (i:Nat) (x:Bat),openOk S L→S.ok→L[i]? = some x→putsOk (openL S (L.take i)) x.2∧(openL S (L.take i)).ok∧(openL S (L.take i)).ups+x.2.length≤S.ups+cntL L
 | [],S,i,x,_,_,h=>by simp at h
 | y :: L,S,0,x,hp,ok,h=>by
  simp at h;subst h
  rw[List.take_zero,openL,cntL]
  exact⟨hp.1,ok,by omega⟩
 | y :: L,S,i+1,x,hp,ok,h=>by
  rw[List.getElem?_cons_succ]at h
  rw[List.take_succ_cons,openL,cntL]
  have h1:=putAllB_ok y.2 S hp.1 ok
  have ih:=openOk_at L _ i x hp.2 h1.1 h
  exact⟨ih.1,ih.2.1,by omega⟩
theorem text_at{W:World}{A:Option Addr}{n c:Nat}{R:List (List UInt8)}{i:Nat}{r:List UInt8}(h:(Tape.textsT (.slice A n c) R).P W)(hr:R[i]? = some r):∃ g,A=some ⟨g,0,none⟩∧W.cell? ⟨g,i,none⟩=some (.string ⟨r.toArray⟩):=by
 have hi:i < R.length:=(List.getElem?_eq_some_iff.1 hr).1
 rcases h.2 with ⟨e,h0⟩ | ⟨g,cp,cur,e,_,hg,_,_,hcs,hcur⟩
 ·omega
 ·injection e with e1 e2 e3
  refine⟨g,e1,?_⟩
  rw[Lib.cell_of_heap hg]
  have h1:(Tape.strs R)[i]? = some (.string ⟨r.toArray⟩):=by unfold Tape.strs;rw[List.getElem?_map,hr];rfl
  rw[← hcur,List.getElem?_take_of_lt (by omega)]at h1
  simpa using h1
def S0:SS:=⟨[],0,0⟩
theorem S0_ok:S0.ok:=⟨List.nodup_nil,Nat.le_refl _,Nat.le_refl _,fun x hx=>(by cases hx)⟩
section
variable{B:Nat}{w W:World}{l:List Drum.Thing}{b:Nat}{D:Drum.DS}{t:Drum.Thing}
theorem shelf_new(W:World)(tb:Nat):ShelfAt ((W.alloc (.map #[] 0)).alloc (.cells #[.pointer (some ⟨tb,0,none⟩),.slice none 0 0,.map (some W.heap.size),.int .i64 0] 43)) (W.heap.size+1) tb W.heap.size (.slice none 0 0) S0 (place []):=by
 have h1:=alloc_lastV (W.alloc (.map #[] 0)) (.cells #[.pointer (some ⟨tb,0,none⟩),.slice none 0 0,.map (some W.heap.size),.int .i64 0] 43)
 have h2:(W.alloc (.map #[] 0)).heap.size=W.heap.size+1:=by simp
 rw[h2]at h1
 refine⟨h1,⟨rfl,.inl ⟨rfl,rfl⟩⟩,(MapAt.made W).kept (G:=fun _=>False) (Drum.Mod.of_below (Base.NewMem.alloc _ _)) id,by omega,by simp[Value.ownBlock],by simp[Value.ownBlock]⟩
def SOpen(B:Nat)(w:World)(l:List Drum.Thing)(b:Nat)(D:Drum.DS)(L:List Bat)(e:Ending)(W':World):Prop:=∃ sb tb pb v u lv ok,
 e = .returned (.tuple #[.pointer (some ⟨sb,0,none⟩),u,.int .i64 0])∧Drum.Sep B w W' (shelfT sb tb pb v ⟨(openL S0 L).things,(openL S0 L).things.length,(openL S0 L).ups⟩ :: rowT ok 0 u (L.map Prod.fst) :: Tape.tapeT tb b (Tape.DS.tape D) :: Tape.textsT lv (Tape.DS.scan D).1 :: l)
set_option maxHeartbeats 16000000 in
set_option maxRecDepth 100000 in
theorem sopen_sep(h:Drum.Sep B w W (t :: l))(ht:Drum.IsDrum b D t)(hdn:D.down=false)(hg:Tape.DS.great D≠4294967295)(hgr:Tape.DS.great D < 4294967296)(hn:D.loose.length≤1000000)(L:List Bat)(hlen:(Tape.DS.scan D).1.length=L.length)(hrec:∀ (i:Nat) (r:List UInt8) (x:Bat),(Tape.DS.scan D).1[i]? = some r→L[i]? = some x→recOk r x)
  (hp:openOk S0 L) (hc:cntL L≤1000000) (hll:L.length≤1000000) (hT:∀ W',Below B w W'→Lib.Utf8Tabs 1 2 W') :
  Calls Tryz.prog 16 #[.pointer (some ⟨b,0,none⟩)] W (SOpen B w (t :: l) b D L):=by
 have hop:=Tape.open_sep h ht hn hgr
 unfold Tape.Opened at hop
 rw[if_neg (by rw[hdn];decide),if_neg hg]at hop
 unfold Tape.OpenOk at hop
 have HOP:=Lib.hid hop
 have HREC:=Lib.hid (And.intro hlen hrec)
 have HOK:=Lib.hid (And.intro hp (And.intro hc hll))
 have HT:=Lib.hid hT
 clear hop hlen hrec hp hc hll hT h ht hdn hg hgr hn
 unfold SOpen
 generalize (Tape.DS.scan D).1=R at *
 go_enter Tryz.func16,Tryz.ntmps16
 go_wp2_with fail
 refine HOP.out.mono ?_
 rintro e W1 ⟨tb,lv,rfl,hS1⟩
 obtain⟨la,lcp,rfl⟩:=Tape.texts_slice (Tape.sep_head hS1.swap)
 obtain⟨W3,hW3⟩:∃ W3,W3=(W1.alloc (.map #[] 0)).alloc (.cells #[.pointer (some ⟨tb,0,none⟩),.slice none 0 0,.map (some W1.heap.size),.int .i64 0] 43):=⟨_,rfl⟩
 have hn3:Below W1.heap.size W1 W3:=by rw[hW3];exact((Below.refl _ _).alloc (Nat.le_refl _) _).alloc (by simp) _
 have hsh:=shelf_new W1 tb
 rw[← hW3]at hsh
 have hS3:Drum.Sep B w W3 (rowT (fun _=>False) 0 (.slice none 0 0) ([]:List S32) :: shelfT (W1.heap.size+1) tb W1.heap.size (.slice none 0 0) S0 :: Tape.tapeT tb b (Tape.DS.tape D) :: Tape.textsT (.slice la R.length lcp) R :: t :: l):=
  ((hS1.new (t:=shelfT (W1.heap.size+1) tb W1.heap.size (.slice none 0 0) S0) hn3 hsh (fun k hk=>by rcases hk with e | e | e;omega;omega;simp[Value.ownBlock]at e))).new (t:=rowT (fun _=>False) 0 (.slice none 0 0) []) (Below.refl _ _) ⟨Kd.R_nil _ _ _ _ _,fun k hk=>hk.elim⟩ (fun k hk=>hk.elim)
 have HS3:=Lib.hid hS3.swap
 have HW3:=Lib.hid hW3
 have hmk:(Instr.makeMap 41 none).run Tryz.prog W1 = .ok (.map (some W1.heap.size)) (W1.alloc (.map #[] 0)):=rfl
 clear hS1 hn3 hsh hS3 hW3
 go_wp2_with fail
 rw[← HW3.out]
 generalize W1.heap.size+1=sb at HS3 ⊢
 generalize W1.heap.size=pb at HS3 ⊢
 clear hmk HW3
 go_loopw [9,29] (fun o i wr=>∃ j v ok,i = .int .i64 ((j:Nat):Int)∧j≤R.length∧Drum.Sep B w wr (shelfT sb tb pb v (openL S0 (L.take j)) :: rowT ok 0 o ((L.take j).map Prod.fst) :: Tape.tapeT tb b (Tape.DS.tape D) :: Tape.textsT (.slice la R.length lcp) R :: t :: l)) (fun _ i _=>R.length - (intOf i).toNat)
 case atStart=>exact⟨0,_,_,rfl,Nat.zero_le _,HS3.out⟩
 case round=>
  obtain⟨i,v,ok,rfl,hi,hsep⟩:=hrel
  have HSP:=Lib.hid hsep
  by_cases hil:i < R.length
  ·obtain⟨r,hr⟩:∃ r,R[i]? = some r:=⟨_,List.getElem?_eq_getElem hil⟩
   obtain⟨x,hx⟩:∃ x,L[i]? = some x:=⟨_,List.getElem?_eq_getElem (by have:=HREC.out.1;omega)⟩
   obtain⟨g,rfl,hc⟩:=text_at ((hsep.all (Tape.textsT (.slice la R.length lcp) R) (by simp)).1) hr
   obtain⟨hr1,hr2,hr3⟩:=HREC.out.2 i r x hr hx
   obtain⟨hpi,hoki,hui⟩:=openOk_at L S0 i x HOK.out.1 S0_ok hx
   have hsz0:(⟨r.toArray⟩:ByteArray).size=r.length:=by rw[Lib.size_eq]
   have HRD:=Lib.hid (sread_sep hsep hoki ⟨r.toArray⟩ x.1 x.2 (by have:=HOK.out.2.1;have h0:S0.ups=0:=rfl;omega) hr1 (by omega) hr2 hpi HT.out)
   have hsn:openL S0 (L.take (i+1))=putAllB (openL S0 (L.take i)) x.2:=by rw[List.take_add_one,hx];exact openL_snoc _ _ _
   have hmp:(L.take (i+1)).map Prod.fst=(L.take i).map Prod.fst ++ [x.1]:=by rw[List.take_add_one,hx];simp
   have hal:((L.take i).map Prod.fst).length≤1000000:=by rw[List.length_map,List.length_take];have:=HOK.out.2.2;omega
   have HSN:=Lib.hid (And.intro hsn (And.intro hmp hal))
   have hbi:0≤(i:Int)∧(i:Int) < (R.length:Int):=by omega
   have hw1:wrap64 ((i:Int)+1)=(i:Int)+1:=by have:=HREC.out.1;have:=HOK.out.2.2;unfold wrap64;omega
   obtain⟨c,bs⟩:=x
   simp only at HRD HSN
   clear hsep hr hx hr1 hr2 hr3 hpi hoki hui hsz0 hsn hmp hal
   go_wp2_with fail
   clear hc
   refine HRD.out.mono ?_
   rintro e W4 ⟨v4,u,lo,hi4,rfl,hS4,hlo⟩
   have hS4':=hS4.swap
   have hrow4:Kd.R k32 32 W4 lo (fun k=>lo≤k∧k < hi4) u c.f3∧∀ k,(lo≤k∧k < hi4)→k < W4.heap.size:=(hS4.all (rowT (fun k=>lo≤k∧k < hi4) lo u c.f3) (by simp)).1
   obtain⟨Au,cu,rfl,_,_⟩:=Kd.R_reads hrow4.1
   obtain⟨W5,hW5⟩:∃ W5,W5=W4.alloc (.cells #[.int .i64 c.f0,.int .i64 c.f1,.string c.f2,.slice Au c.f3.length cu] 32):=⟨_,rfl⟩
   obtain⟨W6,hW6⟩:∃ W6,W6=W5.alloc (.cells #[.int .i64 c.f0,.int .i64 c.f1,.string c.f2,.slice Au c.f3.length cu] 32):=⟨_,rfl⟩
   have hn5:Below W4.heap.size W4 W5:=by rw[hW5];exact(Below.refl _ _).alloc (Nat.le_refl _) _
   have hn6:Below W5.heap.size W5 W6:=by rw[hW6];exact(Below.refl _ _).alloc (Nat.le_refl _) _
   have hg5:W5.heap[W4.heap.size]? = some (.cells #[.int .i64 c.f0,.int .i64 c.f1,.string c.f2,.slice Au c.f3.length cu] 32 (0,0)):=by rw[hW5];exact alloc_lastV _ _
   have hg6:W6.heap[W5.heap.size]? = some (.cells #[.int .i64 c.f0,.int .i64 c.f1,.string c.f2,.slice Au c.f3.length cu] 32 (0,0)):=by rw[hW6];exact alloc_lastV _ _
   obtain⟨⟨y0,y1,y2,y3⟩,_⟩:=box4 hg5
   have hS6:=(hS4.grown (hn5.trans (hn6.mono hn5.size))).perm (l':=rowT ok 0 u9 ((L.take i).map Prod.fst) :: rowT (fun k=>lo≤k∧k < hi4) lo (.slice Au c.f3.length cu) c.f3 :: shelfT sb tb pb v4 (putAllB (openL S0 (L.take i)) bs) :: Tape.tapeT tb b (Tape.DS.tape D) :: Tape.textsT (.slice (some ⟨g,0,none⟩) R.length lcp) R :: t :: l) (by
    refine List.Perm.trans (List.Perm.swap _ _ _) ?_
    refine List.Perm.trans (List.Perm.cons _ (List.Perm.swap _ _ _)) ?_
    exact List.Perm.swap _ _ _)
   have ha6:Kd.R k32 32 W6 0 ok u9 ((L.take i).map Prod.fst)∧∀ k,ok k→k < W6.heap.size:=(hS6.all (rowT ok 0 u9 ((L.take i).map Prod.fst)) (by simp)).1
   have hb6:Kd.R k32 32 W6 lo (fun k=>lo≤k∧k < hi4) (.slice Au c.f3.length cu) c.f3∧∀ k,(lo≤k∧k < hi4)→k < W6.heap.size:=(hS6.all (rowT (fun k=>lo≤k∧k < hi4) lo (.slice Au c.f3.length cu) c.f3) (by simp)).1
   have hap:∀ k,(lo≤k∧k < hi4)→some k≠u9.ownBlock:=fun k hk e=>by
    have h1:=(List.pairwise_cons.1 hS6.apart).1 _ List.mem_cons_self k (ha6.1.1 k e.symm)
    exact h1 hk
   obtain⟨v7,W7,hr7,hg7,hR7⟩:=append_itemO (x:=c) ha6.1 hg6 (Kd.R_lower hb6.1 (Nat.zero_le _)) hap HSN.out.2.2 30
   have hS7:Drum.Sep B w W7 (rowT (fun k=>ok k∨(lo≤k∧k < hi4)∨(W6.heap.size≤k∧k < W7.heap.size)) 0 v7 ((L.take i).map Prod.fst ++ [c]) :: shelfT sb tb pb v4 (putAllB (openL S0 (L.take i)) bs) :: Tape.tapeT tb b (Tape.DS.tape D) :: Tape.textsT (.slice (some ⟨g,0,none⟩) R.length lcp) R :: t :: l):=by
    refine sep_merge hS6 (Drum.Mod.of_grown hg7 (fun k hk=>ha6.1.1 k hk)) ⟨hR7,fun k hk=>?_⟩ (fun k hk=>?_)
    ·have hsz:=hg7.size
     rcases hk with e | e | e
     ·have:=ha6.2 k e;omega
     ·have:=hb6.2 k e;omega
     ·exact e.2
    ·rcases hk with e | e | e
     ·exact .inl e
     ·exact .inr (.inl e)
     ·exact .inr (.inr e.1)
   have HS7:=Lib.hid hS7.swap
   have hs5:W5.heap.size=W4.heap.size+1:=by rw[hW5];simp
   rw[hW6,hs5]at hr7
   have HR7:=Lib.hid hr7
   rw[hW5]at y0 y1 y2 y3 HR7
   have HW5:=Lib.hid hW5
   clear hS4 hS4' hrow4 hlo hn5 hn6 hg5 hg6 hS6 ha6 hb6 hap hr7 hg7 hR7 hS7 hW5 hW6 hs5
   go_wp2_with (at_builtin;refine wpList_value rfl (exec_append _ _ 30 rfl HR7.out) ?_)
   rw[hw1]
   exact⟨⟨i+1,v4,_,by go_num,hil,by rw[HSN.out.1,HSN.out.2.1];exact HS7.out⟩,by simp[intOf];omega⟩
  ·have hie:i=R.length:=by omega
   subst hie
   rw[HREC.out.1,List.take_length]at HSP
   obtain⟨A,c,rfl⟩:=(ShelfAt.of HSP.out).slice
   have e1:=(ShelfAt.of HSP.out).c1
   have e3:=(ShelfAt.of HSP.out).c3
   have f3:=(ShelfAt.of HSP.out).free 3
   have hS8:=HSP.out.turn (t':=shelfT sb tb pb (.slice A (openL S0 L).things.length c) ⟨(openL S0 L).things,(openL S0 L).things.length,(openL S0 L).ups⟩) (Drum.Mod.setCell _ ⟨sb,3,none⟩ _ (.inl rfl)) (shelf_sured (ShelfAt.of HSP.out) rfl) (fun k hk=> .inl hk)
   have HS8:=Lib.hid hS8
   clear hsep hS8
   go_wp2_with fail
   refine bodyPost_ret (v:=.tuple #[.pointer (some ⟨sb,0,none⟩),u9,.int .i64 0]) (by simp[results,Tryz.f16,go_sem]) rfl ?_
   exact⟨sb,tb,pb,_,u9,_,ok,rfl,HS8.out⟩
end
end Go.Proofs.YtlmabbigfdbmbaaGreatDoor.PShelfNil
namespace Go.Proofs.YtlmabbigfdbmbaaGreatDoor.Tape
open Go.RowKit Go.Proofs.YtlmabbigfdbmbaaGreatDoor.Ord Go.Proofs.YtlmabbigfdbmbaaGreatDoorW.PrintWords Go.Proofs.YtlmabbigfdbmbaaGreatDoor.Base Go.Proofs.YtlmabbigfdbmbaaGreatDoor.Drum
theorem write_plain(D:DS)(i:Int)(s:List UInt8)(ha:D.armed=false)(hd:D.down=false)(hs:s.length=64)(h0:0≤i)(h1:i < (D.sure.length:Int)) :
  D.write i s=(0,{ D with left:=IntKind.i64.wrap (D.left - 1),loose:=D.loose ++ [(i.toNat,s)] }):=by
 have hb:D.burn=(0,{ D with left:=IntKind.i64.wrap (D.left - 1) }):=by
  unfold DS.burn burns;rw[ha,hd];rfl
 unfold DS.write
 rw[if_neg (by rintro(x | x | x)<;>omega),hb,if_pos rfl]
theorem saysN_zero:saysN (List.replicate 64 0)=none:=by
 unfold saysN
 rw[if_pos (Or.inl (by rfl))]
theorem saysN_nil:saysN []=none:=by
 unfold saysN
 rw[if_pos (Or.inl (by rfl))]
theorem great_none{D:DS}(h:∀ j,DS.sec D j=none):DS.great D=0:=by
 have:∀ l:List Nat,l.foldl (DS.great1 D) 0=0:=fun l=>by
  induction l with
  | nil=>rfl
  | cons j l ih=>rw[List.foldl_cons,show DS.great1 D 0 j=0 by unfold DS.great1;rw[h]];exact ih
 exact this _
theorem rec_none{D:DS}{a n:Nat}(h:DS.sec D a=none):DS.rec D a n=none:=by
 unfold DS.rec
 cases hk:D.sure.length - a with
 | zero=>rfl
 | succ k=>rw[List.range'_succ];unfold recL;rw[h]
theorem scan_none{D:DS}(h:DS.sec D 0=none):DS.scan D=([],0):=by
 unfold DS.scan
 cases hk:D.sure.length with
 | zero=>rfl
 | succ k=>rw[DS.scanN,rec_none h]
theorem sec_clear(S:List (List UInt8))(n:Int)(a d:Bool)(j:Nat):DS.sec ⟨S,[],a,n,d⟩ j=saysN (S.getD j []):=rfl
end Go.Proofs.YtlmabbigfdbmbaaGreatDoor.Tape
namespace Go.Proofs.YtlmabbigfdbmbaaGreatDoor.Tape
open Go.RowKit Go.Proofs.YtlmabbigfdbmbaaGreatDoor.Ord Go.Proofs.YtlmabbigfdbmbaaGreatDoorW.PrintWords Go.Proofs.YtlmabbigfdbmbaaGreatDoor.Base Go.Proofs.YtlmabbigfdbmbaaGreatDoor.Drum
def dm(m:Nat)(n:Int)(l:List (Nat × List UInt8)):DS:=⟨List.replicate m (List.replicate 64 0),l,false,n,false⟩
theorem dm_sec(m:Nat)(n:Int)(j:Nat):DS.sec (dm m n []) j=none:=by
 unfold dm
 rw[sec_clear,List.getD_eq_getElem?_getD,List.getElem?_replicate]
 split
 ·exact saysN_zero
 ·exact saysN_nil
theorem dm_scan(m:Nat)(n:Int):DS.scan (dm m n [])=([],0):=scan_none (dm_sec m n 0)
theorem dm_great(m:Nat)(n:Int):DS.great (dm m n [])=0:=great_none (dm_sec m n)
theorem dm_tape(m:Nat)(n:Int):DS.tape (dm m n [])=⟨0,1,0,0⟩:=by unfold DS.tape;rw[dm_scan,dm_great];rfl
def l1(s:List UInt8):List UInt8:=layN (secOf 1 1 s 0)
theorem l1_len(s:List UInt8):(l1 s).length=64:=layN_len (secOf_len _ _ _ _)
theorem dm_append(m:Nat)(hm:0 < m)(i:Int)(s:List UInt8)(hs:s.length≤51):TS.append ⟨0,1,0,0⟩ (dm m i []) s=(0,⟨1,1,1,0⟩,dm m (IntKind.i64.wrap (i - 1)) [(0,l1 s)]):=by
 have hneed:needN s.length=1:=by unfold needN;omega
 have hlen:(dm m i []).sure.length=m:=by simp[dm]
 have hw:(dm m i []).write ((0:Nat):Int) (l1 s)=(0,dm m (IntKind.i64.wrap (i - 1)) [(0,l1 s)]):=write_plain _ _ _ rfl rfl (l1_len s) (by omega) (by rw[hlen];omega)
 have hw':(dm m i []).write (((⟨0,1,0,0⟩:TS).at_+0:Nat):Int) (layN (secOf (⟨0,1,0,0⟩:TS).life ((⟨0,1,0,0⟩:TS).count+1) s 0))=(0,dm m (IntKind.i64.wrap (i - 1)) [(0,l1 s)]):=hw
 have hp:TS.puts ⟨0,1,0,0⟩ s (List.range' 0 1) (dm m i [])=(0,dm m (IntKind.i64.wrap (i - 1)) [(0,l1 s)]):=by
  rw[show List.range' 0 1 = [0]from rfl,TS.puts,hw',if_pos rfl]
  rfl
 unfold TS.append
 rw[if_neg (by simp),hneed,hlen,if_neg (by simp only;omega),hp,if_pos rfl]
def dx(m:Nat)(n:Int)(s:List UInt8):DS:=⟨(List.replicate m (List.replicate 64 0)).set 0 (l1 s),[],false,n,false⟩
theorem dm_settle(m:Nat)(i:Int)(s:List UInt8):TS.settle ⟨1,1,1,0⟩ (dm m i [(0,l1 s)])=(0,⟨1,1,1,0⟩,dx m (IntKind.i64.wrap (i - 1)) s):=by
 have hb:(dm m i [(0,l1 s)]).burn=(0,dm m (IntKind.i64.wrap (i - 1)) [(0,l1 s)]):=by unfold DS.burn burns dm;rfl
 have hd:(dm m i [(0,l1 s)]).settle=(0,dx m (IntKind.i64.wrap (i - 1)) s):=by
  unfold DS.settle
  rw[hb,if_pos rfl]
  unfold dm dx
  simp only[List.length_cons,List.length_nil,keepN]
  simp
 unfold TS.settle
 rw[if_neg (by simp),hd]
theorem dx_sec0(m:Nat)(hm:0 < m)(n:Int)(s:List UInt8)(hs:s.length≤51):DS.sec (dx m n s) 0=some (secOf 1 1 s 0):=by
 have hneed:needN s.length=1:=by unfold needN;omega
 unfold dx
 rw[sec_clear,List.getD_eq_getElem?_getD,List.getElem?_set_self (by simpa using hm)]
 exact says_lay (secOf_ok (by decide) (by decide) (by decide) (by omega))
theorem dx_secj(m:Nat)(n:Int)(s:List UInt8)(j:Nat)(hj:j≠0):DS.sec (dx m n s) j=none:=by
 unfold dx
 rw[sec_clear,List.getD_eq_getElem?_getD,List.getElem?_set_ne (by omega),List.getElem?_replicate]
 split
 ·exact saysN_zero
 ·exact saysN_nil
theorem dx_len(m:Nat)(n:Int)(s:List UInt8):(dx m n s).sure.length=m:=by unfold dx;rw[List.length_set,List.length_replicate]
theorem dx_great(m:Nat)(hm:0 < m)(n:Int)(s:List UInt8)(hs:s.length≤51):DS.great (dx m n s)=1:=by
 have h:∀ (l:List Nat) (a:Nat),(∀ j∈l,j≠0)→l.foldl (DS.great1 (dx m n s)) a=a:=by
  intro l
  induction l with
  | nil=>intro a _;rfl
  | cons j l ih=>
   intro a hj
   rw[List.foldl_cons,show DS.great1 (dx m n s) a j=a by unfold DS.great1;rw[dx_secj m n s j (hj j List.mem_cons_self)]]
   exact ih a (fun i hi=>hj i (List.mem_cons_of_mem _ hi))
 unfold DS.great DS.greatL
 rw[dx_len]
 obtain⟨k,rfl⟩:∃ k,m=k+1:=⟨m - 1,by omega⟩
 rw[List.range'_succ,List.foldl_cons,h _ _ (fun j hj=>by have:=(List.mem_range'_1.1 hj).1;omega)]
 unfold DS.great1
 rw[dx_sec0 _ hm n s hs]
 rfl
theorem dx_scan(m:Nat)(hm:0 < m)(n:Int)(s:List UInt8)(hs:s.length≤51):DS.scan (dx m n s)=([s],1):=by
 have hneed:needN s.length=1:=by unfold needN;omega
 have hpc:piece s 0=s:=by unfold piece;rw[Nat.mul_zero,List.drop_zero,List.take_of_length_le hs]
 have hr:DS.rec (dx m n s) 0 1=some ([s],1):=by
  obtain⟨k,rfl⟩:∃ k,m=k+1:=⟨m - 1,by omega⟩
  unfold DS.rec
  rw[dx_len,Nat.sub_zero,List.range'_succ,recL,dx_sec0 _ hm n s hs]
  simp[secOf,hneed,hpc]
 have hr1:DS.rec (dx m n s) 1 2=none:=rec_none (dx_secj m n s 1 (by omega))
 unfold DS.scan
 rw[dx_len]
 obtain⟨k,rfl⟩:∃ k,m=k+1:=⟨m - 1,by omega⟩
 rw[DS.scanN]
 simp only[List.length_nil,Nat.zero_add,hr]
 rw[if_neg (by decide)]
 cases k with
 | zero=>simp[DS.scanN]
 | succ k=>rw[DS.scanN];simp[hr1]
end Go.Proofs.YtlmabbigfdbmbaaGreatDoor.Tape
