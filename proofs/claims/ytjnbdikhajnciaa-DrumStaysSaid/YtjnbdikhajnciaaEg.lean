/- The drum: keep, Settle, Crash. -/
import Derived.Test.YtjnbdikhajnciaaEf
namespace Go.Proofs.Ytjnbdikhajnciaa.Drum
open Go.RowKit Go.Proofs.Ytjnbdikhajnciaa.Ord Go.Proofs.YtjnbdikhajnciaaW.PrintWords Go.Proofs.Ytjnbdikhajnciaa.Base
set_option linter.unusedVariables false
set_option linter.unusedSimpArgs false
attribute [local go_sem] rdl_const rdl_func rdl_global rdl_nil rdl_cons

/-- What stays of the first k loose writes. -/
def keepN (p : Nat → Bool) (l : List (Nat × List UInt8)) (s : List (List UInt8)) : Nat → List (List UInt8)
  | 0 => s
  | k + 1 => match l[k]? with
    | some q => if p k then (keepN p l s k).set q.1 q.2 else keepN p l s k
    | none => keepN p l s k
theorem keepN_len (p : Nat → Bool) (l : List (Nat × List UInt8)) (s : List (List UInt8)) : ∀ k, (keepN p l s k).length = s.length
  | 0 => rfl
  | k + 1 => by
    unfold keepN
    split
    · split
      · rw [List.length_set, keepN_len p l s k]
      · exact keepN_len p l s k
    · exact keepN_len p l s k
theorem keepN_wide (p : Nat → Bool) (l : List (Nat × List UInt8)) (s : List (List UInt8)) (hs : ∀ x ∈ s, x.length = 64) (hl : ∀ q ∈ l, q.2.length = 64) : ∀ k, ∀ x ∈ keepN p l s k, x.length = 64
  | 0 => hs
  | k + 1 => by
    unfold keepN
    split
    · rename_i q hq
      split
      · intro x hx
        rcases List.mem_or_eq_of_mem_set hx with h | h
        · exact keepN_wide p l s hs hl k x h
        · rw [h]; exact hl q (List.mem_of_getElem? hq)
      · exact keepN_wide p l s hs hl k
    · exact keepN_wide p l s hs hl k

/-- The cells of an element. -/
theorem flat_at {α : Type} (f : α → List Value) (n : Nat) : ∀ (l : List α) (k : Nat) (x : α), (∀ y ∈ l, (f y).length = n) → l[k]? = some x → ((l.flatMap f).drop (k * n)).take n = f x
  | [], k, x, _, h => by simp at h
  | y :: l, 0, x, hw, h => by
    simp at h; subst h
    rw [List.flatMap_cons, Nat.zero_mul, List.drop_zero, List.take_append_of_le_length (by rw [hw y (by simp)]; exact Nat.le_refl _), List.take_of_length_le (by rw [hw y (by simp)]; exact Nat.le_refl _)]
  | y :: l, k + 1, x, hw, h => by
    have hy := hw y (by simp)
    rw [List.flatMap_cons, List.drop_append, hy, List.drop_eq_nil_of_le (by rw [hy, Nat.add_mul]; omega), List.nil_append, show (k + 1) * n - n = k * n by rw [Nat.add_mul]; omega]
    exact flat_at f n l k x (fun z hz => hw z (by simp [hz])) (by simpa using h)
theorem flat_set {α : Type} (f : α → List Value) (n : Nat) : ∀ (l : List α) (k : Nat) (x : α), (∀ y ∈ l, (f y).length = n) → k < l.length → ((l.set k x).flatMap f) = (l.flatMap f).take (k * n) ++ f x ++ (l.flatMap f).drop (k * n + n)
  | [], k, x, _, h => by simp at h
  | y :: l, 0, x, hw, h => by
    have hy := hw y (by simp)
    simp [← hy]
  | y :: l, k + 1, x, hw, h => by
    have hy := hw y (by simp)
    have ih := flat_set f n l k x (fun z hz => hw z (by simp [hz])) (by simpa using h)
    have e : (k + 1) * n = (f y).length + k * n := by rw [Nat.add_mul, hy]; omega
    have e2 : (k + 1) * n + n = (f y).length + (k * n + n) := by rw [e]; omega
    rw [List.set_cons_succ, List.flatMap_cons, List.flatMap_cons, ih, e2, e, List.take_length_add_append, List.drop_length_add_append]
    simp
theorem flat_len {α : Type} (f : α → List Value) (n : Nat) : ∀ (l : List α), (∀ y ∈ l, (f y).length = n) → (l.flatMap f).length = l.length * n
  | [], _ => by simp
  | y :: l, hw => by
    rw [List.flatMap_cons, List.length_append, hw y (by simp), flat_len f n l (fun z hz => hw z (by simp [hz])), List.length_cons, Nat.add_mul]; omega
def looseCell (p : Nat × List UInt8) : List Value := secCells p.2 ++ [.int .i64 (p.1 : Int)]

theorem looseCell_len (q : Nat × List UInt8) (h : q.2.length = 64) : (looseCell q).length = 65 := by simp [looseCell, secCells_len, h]
def DS.kept (D : DS) (p : Nat → Bool) (k : Nat) : DS := { D with sure := keepN p D.loose D.sure k }
theorem DS.kept_no {D : DS} {p : Nat → Bool} {k : Nat} {q : Nat × List UInt8} (hq : D.loose[k]? = some q) (hp : p k = false) : D.kept p (k + 1) = D.kept p k := by
  have : keepN p D.loose D.sure (k + 1) = keepN p D.loose D.sure k := by rw [keepN, hq]; simp [hp]
  unfold DS.kept; rw [this]
theorem DS.kept_yes {D : DS} {p : Nat → Bool} {k : Nat} {q : Nat × List UInt8} (hq : D.loose[k]? = some q) (hp : p k = true) : D.kept p (k + 1) = { (D.kept p k) with sure := (D.kept p k).sure.set q.1 q.2 } := by
  have : keepN p D.loose D.sure (k + 1) = (keepN p D.loose D.sure k).set q.1 q.2 := by rw [keepN, hq]; simp [hp]
  unfold DS.kept; rw [this]
theorem DS.kept_len (D : DS) (p : Nat → Bool) (k : Nat) : (D.kept p k).sure.length = D.sure.length := keepN_len _ _ _ _
/-- A drum while k loose writes have been looked at. -/
def Kept (w : World) (b sb cap : Nat) (lv : Value) (D : DS) (p : Nat → Bool) (k : Nat) (wr : World) : Prop := DrumAt wr b sb cap lv (D.kept p k) ∧ Mod (fun i => i = sb) w wr
theorem info_secb : (Try.prog.info? 84).map (fun i => i.size) = some 64 := by kernel_rfl
theorem info_looseb : (Try.prog.info? 86).map (fun i => i.size) = some 65 := by kernel_rfl
theorem DrumAt.loose_block {w : World} {b sb cap g cp : Nat} {n : Nat} {D : DS} (h : DrumAt w b sb cap (.slice (some ⟨g, 0, none⟩) n cp) D) : ∃ rest, w.heap[g]? = some (.cells (looseCells D.loose ++ rest).toArray 86 (0, 0)) := by
  rcases h.loose.2 with ⟨e, _⟩ | ⟨g', cp', cur, e, _, hg, _, _, _, ht⟩
  · cases e
  · injection e with e1 e2 e3
    injection e1 with e1
    injection e1 with e1
    subst e1
    refine ⟨cur.toList.drop (D.loose.length * 65), ?_⟩
    rw [← ht, List.take_append_drop]; exact hg
theorem DrumAt.sure_block {w : World} {b sb cap : Nat} {lv : Value} {D : DS} (h : DrumAt w b sb cap lv D) : ∃ rest, w.heap[sb]? = some (.cells (sureCells D.sure ++ rest).toArray 84 (0, 0)) := by
  rcases h.sure.2 with ⟨e, _⟩ | ⟨g', cp', cur, e, _, hg, _, _, _, ht⟩
  · cases e
  · injection e with e1 e2 e3
    injection e1 with e1
    injection e1 with e1
    subst e1
    refine ⟨cur.toList.drop (D.sure.length * 64), ?_⟩
    rw [← ht, List.take_append_drop]; exact hg
theorem DrumAt.loose_at {w : World} {b sb cap g cp : Nat} {n k : Nat} {D : DS} {q : Nat × List UInt8} (h : DrumAt w b sb cap (.slice (some ⟨g, 0, none⟩) n cp) D) (hq : D.loose[k]? = some q) : w.rangeAt g (k * 65) (looseCell q) := by
  obtain ⟨rest, hb⟩ := h.loose_block
  have hw : ∀ y ∈ D.loose, (looseCell y).length = 65 := fun y hy => looseCell_len y (h.wloose y hy).1
  have hk := (List.getElem?_eq_some_iff.1 hq).1
  have hl := flat_len looseCell 65 D.loose hw
  refine range_of_block hb ?_
  have e : looseCells D.loose = D.loose.flatMap looseCell := rfl
  rw [looseCell_len q (h.wloose q (List.mem_of_getElem? hq)).1, e, List.drop_append_of_le_length (by rw [hl]; omega), List.take_append_of_le_length (by rw [List.length_drop, hl]; omega)]
  exact flat_at looseCell 65 D.loose k q hw hq
theorem DrumAt.sure_at {w : World} {b sb cap : Nat} {lv : Value} {k : Nat} {D : DS} {s : List UInt8} (h : DrumAt w b sb cap lv D) (hq : D.sure[k]? = some s) : w.rangeAt sb (k * 64) (secCells s) := by
  obtain ⟨rest, hb⟩ := h.sure_block
  have hw : ∀ y ∈ D.sure, (secCells y).length = 64 := fun y hy => by rw [secCells_len]; exact h.wsure y hy
  have hk := (List.getElem?_eq_some_iff.1 hq).1
  have hl := flat_len secCells 64 D.sure hw
  refine range_of_block hb ?_
  have e : sureCells D.sure = D.sure.flatMap secCells := rfl
  rw [hw s (List.mem_of_getElem? hq), e, List.drop_append_of_le_length (by rw [hl]; omega), List.take_append_of_le_length (by rw [List.length_drop, hl]; omega)]
  exact flat_at secCells 64 D.sure k s hw hq
theorem DrumAt.sure_there {w : World} {b sb cap : Nat} {lv : Value} {k : Nat} {D : DS} (h : DrumAt w b sb cap lv D) (hk : k < D.sure.length) : w.there sb (k * 64) 64 := by
  obtain ⟨rest, hb⟩ := h.sure_block
  have hw : ∀ y ∈ D.sure, (secCells y).length = 64 := fun y hy => by rw [secCells_len]; exact h.wsure y hy
  have hl := flat_len secCells 64 D.sure hw
  have e : sureCells D.sure = D.sure.flatMap secCells := rfl
  exact there_of_block hb (by rw [e, List.length_append, hl]; omega)
theorem Mod.setCells {F : Nat → Prop} (w : World) (b o : Nat) (vs : List Value) (ha : F b) : Mod F w (w.setCells b o vs) :=
  ⟨(setCells_os vs b o w).1, (setCells_os vs b o w).2.1, (setCells_os vs b o w).2.2, by rw [setCells_size]; exact Nat.le_refl _, fun k _ hf => setCells_other _ _ _ _ _ (fun e => hf (e ▸ ha))⟩
/-- A sector turned. -/
theorem DrumAt.put {w : World} {b sb cap : Nat} {lv : Value} {k : Nat} {D : DS} {s : List UInt8} (h : DrumAt w b sb cap lv D) (hk : k < D.sure.length) (hs : s.length = 64) : DrumAt (w.setCells sb (k * 64) (secCells s)) b sb cap lv { D with sure := D.sure.set k s } := by
  have hm : Mod (fun i => i = sb) w (w.setCells sb (k * 64) (secCells s)) := Mod.setCells _ _ _ _ rfl
  have hw : ∀ y ∈ D.sure, (secCells y).length = 64 := fun y hy => by rw [secCells_len]; exact h.wsure y hy
  have hl := flat_len secCells 64 D.sure hw
  refine ⟨?_, ?_, ownsRow_mod h.loose hm (fun k hk e => h.nes (by rw [hk, e])), h.ne, h.nel, h.nes, ?_, ?_, ?_, ?_⟩
  · have := h.cell.kept hm h.ne
    simpa using this
  · rcases h.sure.2 with ⟨e, _⟩ | ⟨g', cp', cur, e, hb, hg, hc, hmx, hsz, ht⟩
    · cases e
    · injection e with e1 e2 e3
      injection e1 with e1
      injection e1 with e1
      subst e1
      subst e3
      have hcl : cur.toList.length = cap * 64 := by simpa using hsz
      have hle : D.sure.length * 64 ≤ cap * 64 := Nat.mul_le_mul_right 64 hc
      have hgl : w.heap[sb]? = some (.cells cur.toList.toArray 84 (0, 0)) := by simpa using hg
      have hlen : (secCells s).length = 64 := by rw [secCells_len, hs]
      have hset := setCells_heap 84 (0, 0) (secCells s) sb (k * 64) w cur.toList hgl (by rw [hlen, hcl]; omega)
      have e2 : sureCells (D.sure.set k s) = (D.sure.set k s).flatMap secCells := rfl
      have e3 : sureCells D.sure = D.sure.flatMap secCells := rfl
      refine ⟨?_, .inr ⟨sb, cap, _, by rw [List.length_set], hb, hset, by rw [List.length_set]; exact hc, hmx, ?_, ?_⟩⟩
      · rw [e2, flat_set secCells 64 D.sure k s hw hk]; simp [hl, hlen]; omega
      · simp [hlen, hcl]; omega
      · rw [e2, flat_set secCells 64 D.sure k s hw hk, ← e3, ← ht, List.length_set, hlen]
        simp only [List.take_append, List.length_append, List.length_take, hlen, hcl]
        rw [List.take_take, List.take_take, List.drop_take, List.take_of_length_le (l := secCells s) (by rw [hlen]; omega)]
        congr 1
        · congr 2; omega
        · congr 1; omega
  · rw [List.length_set]; exact h.pos
  · rw [List.length_set]; exact h.few
  · intro x hx
    rcases List.mem_or_eq_of_mem_set hx with hx | hx
    · exact h.wsure x hx
    · rw [hx]; exact hs
  · intro q hq; rw [List.length_set]; exact h.wloose q hq
theorem secCells_one (s : List UInt8) : (secCells s).toArray.all (·.oneCell') = true := by
  unfold secCells; rw [nums_ints]; exact all_oneCell_toArray (Lib.byteCells_one _)

set_option maxRecDepth 100000 in
set_option maxHeartbeats 8000000 in
theorem keep_at (b sb cap : Nat) (lv : Value) (D : DS) (K : Nat) (caps : Array Value) (p : Nat → Bool) (w : World) (h : DrumAt w b sb cap lv D) (hn : D.loose.length ≤ 1000000)
    (hK : ∀ args W, (callFunc K args).run Try.prog W = .ok (.enter K args) W)
    (hcl : ∀ W k, k < D.loose.length → Mod (fun i => i = sb) w W → Calls Try.prog K (#[.int .i64 (k : Int)] ++ caps) W fun e w' => e = .returned (.bool (p k)) ∧ W = w') :
    Calls Try.prog 51 #[.pointer (some ⟨b, 0, none⟩), .func (.func K) #[] caps] w fun e w' => e = .returned (.tuple #[]) ∧ DrumAt w' b sb cap (.slice none 0 0) { D with sure := keepN p D.loose D.sure D.loose.length, loose := [] } ∧ Mod (fun i => i = b ∨ i = sb) w w' := by
  obtain ⟨a, cp, hlv⟩ : ∃ a cp, lv = .slice a D.loose.length cp := by
    rcases h.loose.2 with ⟨e, h0⟩ | ⟨g, cp, cur, e, _⟩
    · exact ⟨none, 0, by rw [e, h0]⟩
    · exact ⟨_, cp, e⟩
  have c1 := h.cell.cells.2.1
  rw [hlv] at c1
  have ha : 0 < D.loose.length → ∃ g, a = some ⟨g, 0, none⟩ := fun h0 => by
    obtain ⟨g, c', e, _⟩ := h.loose.form h0
    rw [hlv] at e; injection e with e; exact ⟨g, e⟩
  have HA := Lib.hid ha
  have H := Lib.hid h
  have HCL := Lib.hid hcl
  obtain ⟨n, hnn⟩ : ∃ n, n = D.loose.length := ⟨_, rfl⟩
  rw [← hnn] at c1 hn
  have HN := Lib.hid hnn
  have HLV := Lib.hid hlv
  clear h hlv hcl hnn ha
  go_enter Try.func51, Try.ntmps51
  go_wp2_with fail
  go_loopw [11] (fun i wr => ∃ k : Nat, k ≤ n ∧ i = .int .i64 (k : Int) ∧ Kept w b sb cap lv D p k wr) (fun i _ => n - (intOf i).toNat)
  case atStart => exact ⟨0, Nat.zero_le _, rfl, H.out, Mod.refl _ _⟩
  case round =>
    obtain ⟨k, hk, rfl, hkept⟩ := hrel
    have HKE := Lib.hid hkept
    clear hkept
    by_cases hlt : k < n
    · obtain ⟨g, rfl⟩ := HA.out (by have := HN.out; omega)
      obtain ⟨q, hq⟩ : ∃ q, D.loose[k]? = some q := ⟨_, List.getElem?_eq_getElem (by have := HN.out; omega)⟩
      have hDk : DrumAt wr b sb cap (.slice (some ⟨g, 0, none⟩) D.loose.length cp) (D.kept p k) := by rw [← HLV.out]; exact HKE.out.1
      have hld : wr.rangeAt g (k * 65) (looseCell q) := hDk.loose_at hq
      have hq2 := hDk.wloose q (List.mem_of_getElem? hq)
      have hql := looseCell_len q hq2.1
      have hqz : (Try.prog.info? 86).map (·.size) = some (looseCell q).length := by rw [hql]; exact info_looseb
      have hqz2 : (Try.prog.info? 86).map (·.size) = some (looseCell q).toArray.size := by simpa using hqz
      have hq1 : (looseCell q).toArray.all (·.oneCell') = true := all_oneCell_toArray (loose_one q.2 q.1)
      have hzq : Try.zeroCells86.size = (looseCell q).toArray.size := by rw [zero_loose]; simp [hql]
      have HLD := Lib.hid hld
      have HDK := Lib.hid hDk
      have HQ := Lib.hid hq
      have HQ2 := Lib.hid hq2
      have HQL := Lib.hid hql
      have HQZ := Lib.hid hqz
      have HQZ2 := Lib.hid hqz2
      have HQ1 := Lib.hid hq1
      have HZQ := Lib.hid hzq
      clear hld hDk hq hq2 hql hqz hqz2 hq1 hzq
      go_wp2_with (first
        | (refine wpList_load_mid rfl 86 _ rfl g (k * 65) rfl (looseCell q) _ HLD.out Try.underlying86 rfl HQZ.out ?_)
        | (refine wpList_store_row rfl 86 _ _ rfl wr.heap.size (looseCell q).toArray rfl rfl 86 _ (heap_alloc_last _ _) HQZ2.out HZQ.out HQ1.out ?_; rw [World.setRow_alloc_new]))
      obtain ⟨gq, hgq⟩ : ∃ gq : Nat, gq = wr.heap.size := ⟨_, rfl⟩
      obtain ⟨wx, hwx⟩ : ∃ wx : World, wx = wr.alloc (.cells (looseCell q).toArray 86) := ⟨_, rfl⟩
      have hm1 : Mod (fun _ => False) wr wx := by rw [hwx]; exact Mod.of_below (NewMem.alloc _ _)
      have hX : DrumAt wx b sb cap (.slice (some ⟨g, 0, none⟩) D.loose.length cp) (D.kept p k) := HDK.out.kept hm1 (fun _ _ => id)
      have hXq : wx.heap[gq]? = some (.cells (looseCell q).toArray 86 (0, 0)) := by rw [hwx, hgq]; exact heap_alloc_last _ _
      have hmw : Mod (fun i => i = sb) w wx := HKE.out.2.trans hm1 (fun _ e => e.elim)
      rw [← hwx, ← hgq]
      have hc := HCL.out wx k (by have := HN.out; omega) hmw
      have HX := Lib.hid hX
      have HXQ := Lib.hid hXq
      have HMW := Lib.hid hmw
      have HM1 := Lib.hid hm1
      clear hX hXq hmw hgq hwx hm1
      refine hc.mono ?_
      clear hc
      rintro e w' ⟨rfl, rfl⟩
      cases hp : p k with
      | false =>
        have HP := Lib.hid hp
        clear hp
        go_wp2_with fail
        go_roundw
        case rel =>
          refine ⟨k + 1, by omega, by go_num, ?_⟩
          unfold Kept
          rw [DS.kept_no HQ.out HP.out, HLV.out]
          exact ⟨HX.out, HMW.out⟩
        case measure => simp [intOf]; omega
      | true =>
        have HP := Lib.hid hp
        clear hp
        go_wp2_with fail
        refine' wp_region_facts (S := (fun W => W = wx.drew)) (R := (fun a b => a = b)) [eqF _ _, eqF _ _, eqF _ _, eqF _ (.slice (some ⟨sb, 0, none⟩) D.sure.length cap), eqF _ _, eqF _ (.int .i64 (q.1 : Int)), eqF _ _, eqF _ (.agg (secCells q.2).toArray), eqF _ (.pointer (some ⟨sb, q.1 * 64, none⟩))] (by kernel_rfl) (by kernel_rfl) ?hS ?h0 (steps_cons ?s0 (steps_cons ?s1 (steps_cons ?s2 (steps_cons ?s3 (steps_cons ?s4 (steps_cons ?s5 (steps_cons ?s6 (steps_cons ?s7 (steps_cons ?s8 (steps_nil)))))))))) ?fin
        case s0 =>
          intro g W hSW hd
          try simp only [Nat.zero_add, Nat.reduceAdd] at hd ⊢
          with_reducible refine OpGives.pre_reads [] 32 ?_ ?_ ?_
          · rfl
          · kernel_rfl
          simp only [List.map_cons, List.map_nil]
          refine OpGives.val (w' := W) ?_ ⟨rfl, rfl⟩
          go_simp
          try with_reducible rfl
        case s1 =>
          intro g W hSW hd
          try simp only [Nat.zero_add, Nat.reduceAdd] at hd ⊢
          have h0 : g 0 = _ := hd 0 (by decide) (by kernel_rfl)
          with_reducible refine OpGives.pre_reads [(19, 0)] 32 ?_ ?_ ?_
          · rfl
          · kernel_rfl
          simp only [List.map_cons, List.map_nil]
          refine OpGives.val (w' := W) ?_ ⟨rfl, rfl⟩
          go_simp
          try with_reducible rfl
        case s2 =>
          intro g W hSW hd
          try simp only [Nat.zero_add, Nat.reduceAdd] at hd ⊢
          have h1 : g 1 = _ := hd 1 (by decide) (by kernel_rfl)
          with_reducible refine OpGives.pre_reads [(20, 1)] 32 ?_ ?_ ?_
          · rfl
          · kernel_rfl
          simp only [List.map_cons, List.map_nil]
          refine OpGives.val (w' := W) ?_ ⟨rfl, rfl⟩
          go_simp
          try with_reducible rfl
        case s3 =>
          intro g W hSW hd
          try simp only [Nat.zero_add, Nat.reduceAdd] at hd ⊢
          have h2 : g 2 = _ := hd 2 (by decide) (by kernel_rfl)
          with_reducible refine OpGives.pre_reads [(21, 2)] 32 ?_ ?_ ?_
          · rfl
          · kernel_rfl
          simp only [List.map_cons, List.map_nil]
          subst hSW; have c0 : wx.cell? ⟨b, 0, none⟩ = some (.slice (some ⟨sb, 0, none⟩) D.sure.length cap) := by {have := HX.out.cell.cells.1; rwa [DS.kept_len] at this}; refine OpGives.val (w' := wx.drew) ?_ ⟨rfl, rfl⟩; go_simp
        case s4 =>
          intro g W hSW hd
          try simp only [Nat.zero_add, Nat.reduceAdd] at hd ⊢
          with_reducible refine OpGives.pre_reads [] 32 ?_ ?_ ?_
          · rfl
          · kernel_rfl
          simp only [List.map_cons, List.map_nil]
          refine OpGives.val (w' := W) ?_ ⟨rfl, rfl⟩
          go_simp
          try with_reducible rfl
        case s5 =>
          intro g W hSW hd
          try simp only [Nat.zero_add, Nat.reduceAdd] at hd ⊢
          have h4 : g 4 = _ := hd 4 (by decide) (by kernel_rfl)
          with_reducible refine OpGives.pre_reads [(23, 4)] 32 ?_ ?_ ?_
          · rfl
          · kernel_rfl
          simp only [List.map_cons, List.map_nil]
          subst hSW; have c0 : wx.cell? ⟨gq, 64, none⟩ = some (.int .i64 (q.1 : Int)) := by {rw [cell_of_row _ _ _ _ _ _ HXQ.out]; simp [looseCell, secCells_len, HQ2.out.1]}; refine OpGives.val (w' := wx.drew) ?_ ⟨rfl, rfl⟩; go_simp
        case s6 =>
          intro g W hSW hd
          try simp only [Nat.zero_add, Nat.reduceAdd] at hd ⊢
          with_reducible refine OpGives.pre_reads [] 32 ?_ ?_ ?_
          · rfl
          · kernel_rfl
          simp only [List.map_cons, List.map_nil]
          refine OpGives.val (w' := W) ?_ ⟨rfl, rfl⟩
          go_simp
          try with_reducible rfl
        case s7 =>
          intro g W hSW hd
          try simp only [Nat.zero_add, Nat.reduceAdd] at hd ⊢
          have h6 : g 6 = _ := hd 6 (by decide) (by kernel_rfl)
          with_reducible refine OpGives.pre_reads [(25, 6)] 32 ?_ ?_ ?_
          · rfl
          · kernel_rfl
          simp only [List.map_cons, List.map_nil]
          subst hSW; refine OpGives.val (w' := wx.drew) (exec_load_mid 84 _ rfl gq 0 ?_ (secCells q.2) _ (range_of_block HXQ.out ?_) Try.underlying84 rfl ?_) ⟨rfl, rfl⟩; (rw [h6]; simp [rdl_cons]); (simp [looseCell]); (rw [secCells_len, HQ2.out.1]; exact info_secb)
        case s8 =>
          intro g W hSW hd
          try simp only [Nat.zero_add, Nat.reduceAdd] at hd ⊢
          have h3 : g 3 = _ := hd 3 (by decide) (by kernel_rfl)
          have h5 : g 5 = _ := hd 5 (by decide) (by kernel_rfl)
          with_reducible refine OpGives.pre_reads [(22, 3), (24, 5)] 32 ?_ ?_ ?_
          · rfl
          · kernel_rfl
          simp only [List.map_cons, List.map_nil]
          have hb : q.1 < D.sure.length := by {have := HQ2.out.2; rwa [DS.kept_len] at this}; refine OpGives.val (w' := W) ?_ ⟨rfl, rfl⟩; go_simp
        case hS => rintro a c h rfl; exact h
        case h0 => rfl
        case fin =>
          intro v W hSW hf
          subst hSW
          have h7 : v 7 = _ := hf 7 (Nat.lt_of_lt_of_eq (by decide : 7 < 9) rfl)
          have h8 : v 8 = _ := hf 8 (Nat.lt_of_lt_of_eq (by decide : 8 < 9) rfl)
          clear hf
          generalize hF : Ord.pre _ _ v _ = F
          rw [Ord.pre_lit [some 19, some 20, some 21, some 22, some 23, some 24, some 25, some 26, some 27]
            (by kernel_rfl)] at hF
          simp only [Ord.puts, Nat.zero_add, Nat.reduceAdd] at hF
          subst hF
          rw [h7, h8]
          have hkq : q.1 < (D.kept p k).sure.length := HQ2.out.2
          have hput := HX.out.put hkq HQ2.out.1
          have hput' : DrumAt (wx.drew.setCells sb (q.1 * 64) (secCells q.2)) b sb cap (.slice (some ⟨g, 0, none⟩) D.loose.length cp) (D.kept p (k + 1)) := by
            rw [DS.kept_yes HQ.out HP.out]
            exact (HX.out.kept (F := fun _ => False) (Mod.drew (Mod.refl _ _)) (fun _ _ => id)).put hkq HQ2.out.1
          have hth : wx.drew.there sb (q.1 * 64) (secCells q.2).toArray.size := by
            have := (HX.out.kept (F := fun _ => False) (Mod.drew (Mod.refl _ _)) (fun _ _ => id)).sure_there hkq
            simpa [secCells_len, HQ2.out.1] using this
          have hsz : (Try.prog.info? 84).map (·.size) = some (secCells q.2).toArray.size := by
            rw [List.size_toArray, secCells_len, HQ2.out.1]; exact info_secb
          have hmW : Mod (fun i => i = sb) w (wx.drew.setCells sb (q.1 * 64) (secCells q.2)) := (Mod.drew HMW.out).trans (Mod.setCells (F := fun i => i = sb) _ _ _ _ rfl) (fun _ e => .inl e)
          refine any_one (i := 9) (by kernel_rfl) ?_
          refine wpOp_skip (w' := wx.drew.setCells sb (q.1 * 64) (secCells q.2)) rfl rfl ?_ ?_
          · refine exec_store_mid 84 (.tmp 27) (.tmp 26) (by rfl) sb (q.1 * 64) (secCells q.2).toArray ?_ ?_ hth hsz (secCells_one _)
            · go_simp
            · go_simp
          refine wpAny_done (by kernel_rfl) ?_ _
          simp only [List.getElem_toArray, List.getElem_cons_succ, List.getElem_cons_zero]
          go_frame
          have HPU := Lib.hid hput'
          have HMW2 := Lib.hid hmW
          clear hput hput' hth hsz hmW h7 h8
          generalize wx.drew.setCells sb (q.1 * 64) (secCells q.2) = wy at *
          go_wp2_with fail
          go_roundw
          case rel => exact ⟨k + 1, by omega, by go_num, by rw [HLV.out]; exact HPU.out, HMW2.out⟩
          case measure => simp [intOf]; omega
    · have hD : DrumAt wr b sb cap lv (D.kept p k) := HKE.out.1
      have c1 := hD.cell.cells.2.1
      have f1 := hD.cell.free 1
      have HD := Lib.hid hD
      clear hD
      have hkn : k = D.loose.length := by have := HN.out; omega
      have HKN := Lib.hid hkn
      clear hkn
      go_wp2_with fail
      go_end0
      have hm : Mod (fun i => i = b) wr (wr.setCell ⟨b, 1, none⟩ (.slice none 0 0)) := Mod.setCell _ _ _ rfl
      refine ⟨rfl, ?_, (HKE.out.2.mono (fun _ e => Or.inr e)).trans hm (fun _ e => .inl (.inl e))⟩
      rw [← HKN.out]
      have hd := HD.out
      exact ⟨hd.cell.set1 _, ownsRow_mod hd.sure hm (fun k hk e => hd.ne (by subst e; simpa [Value.ownBlock] using hk.symm)), World.ownsRow_nil _ _ _ _, hd.ne, by simp [Value.ownBlock], by simp [Value.ownBlock], hd.pos, hd.few, hd.wsure, fun q hq => by cases hq⟩
end Go.Proofs.Ytjnbdikhajnciaa.Drum
