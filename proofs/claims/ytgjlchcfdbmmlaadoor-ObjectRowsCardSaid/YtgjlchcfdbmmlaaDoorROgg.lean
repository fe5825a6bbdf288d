/- Texts of one proof, joined: TON, TOO. -/
import Derived.Test.YtgjlchcfdbmmlaaDoorROfg
set_option linter.unusedSimpArgs false
set_option linter.unusedVariables false
/- object.kid walked. -/
namespace Go.Proofs.YtgjlchcfdbmmlaaDoor.PObjectTakes
open Go.RowKit Go.Proofs.YtgjlchcfdbmmlaaDoor.Ord Go.Proofs.YtgjlchcfdbmmlaaDoor.Obj Go.Proofs.YtgjlchcfdbmmlaaDoorW.PrintWords Go.Proofs.YtgjlchcfdbmmlaaDoorW.PrintLast Go.Proofs.YtgjlchcfdbmmlaaDoorW.PrintMore
set_option linter.unusedVariables false
set_option linter.unusedSimpArgs false
attribute [local irreducible] OpGives
attribute [local go_sem] ta_ii ta_is ta_il ta_si ta_ss ta_sl ta_li ta_ls ta_ll

def kidD (x : S42) : Option S60 :=
  if isL x then match x.f3 with
    | [a, b] => if a.f0 = 1 ∧ b.f0 = 2 then (if 0 ≤ a.f1 ∧ a.f1 ≤ 255 then some ⟨a.f1, b.f2⟩ else none) else none
    | _ => none
  else none
def kidVal (r : S60) : Value := .agg #[.int .u8 r.f0, .string r.f1]
def kidPost (o : Option S60) (w : World) (e : Ending) (w' : World) : Prop := e = .returned (.tuple #[kidVal (o.getD z60), .bool o.isSome]) ∧ Below w.heap.size w w'
theorem results_kid (tmps : Array Value) (w : World) (c : Nat) (a0 a1 b : Value) (h2 : tmps.getD 2 undef = .pointer (some ⟨c, 0, none⟩)) (h3 : tmps.getD 3 undef = b)
    (hc : w.heap[c]? = some (.cells #[a0, a1] 60 (0, 0))) :
    (results Tryd.f67 tmps).run Tryd.prog w = .ok (.tuple #[.agg #[a0, a1], b]) w := by
  have h2' : tmps[2]?.getD undef = .pointer (some ⟨c, 0, none⟩) := by simpa using h2
  have h3' : tmps[3]?.getD undef = b := by simpa using h3
  obtain ⟨k0, k1⟩ := box2 hc
  simp [results, Tryd.results67, h2', h3', asAddr, k0, k1, go_sem]
set_option maxRecDepth 100000 in
theorem kid_atom (u : Value) (w : World) (hu : (∃ v, u = .iface 3 v) ∨ ∃ v, u = .iface 9 v) : Calls Tryd.prog 67 #[u] w (kidPost none w) := by
  rcases hu with ⟨v, rfl⟩ | ⟨v, rfl⟩
  · go_enter Tryd.func67, Tryd.ntmps67
    go_wp2
    refine bodyPost_ret (results_kid _ _ w.heap.size _ _ _ rfl rfl (alloc_lastV _ _)) rfl ?_
    exact ⟨rfl, (Below.refl _ _).alloc (Nat.le_refl _) _⟩
  · go_enter Tryd.func67, Tryd.ntmps67
    go_wp2
    refine bodyPost_ret (results_kid _ _ w.heap.size _ _ _ rfl rfl (alloc_lastV _ _)) rfl ?_
    exact ⟨rfl, (Below.refl _ _).alloc (Nat.le_refl _) _⟩
set_option maxRecDepth 100000 in
theorem kid_len (A : Option Addr) (n c : Nat) (w : World) (hn : n ≠ 2) : Calls Tryd.prog 67 #[.iface 99 (.slice A n c)] w (kidPost none w) := by
  have hn' : ((n : Int) == 2) = false := by rw [beq_eq_false_iff_ne]; omega
  go_enter Tryd.func67, Tryd.ntmps67
  go_wp2
  refine bodyPost_ret (results_kid _ _ w.heap.size _ _ _ rfl rfl (alloc_lastV _ _)) rfl ?_
  exact ⟨rfl, (Below.refl _ _).alloc (Nat.le_refl _) _⟩
set_option maxHeartbeats 4000000 in
set_option maxRecDepth 100000 in
theorem kid_ii (ad : Addr) (c : Nat) (n0 : Int) (n1 : Int) (w : World) (h0 : w.cell? ad = some (.iface 3 (.int .i64 n0))) (h1 : w.cell? ⟨ad.block, ad.off + 1, none⟩ = some (.iface 3 (.int .i64 n1))) (hb : ad.block < w.heap.size) :
    Calls Tryd.prog 67 #[.iface 99 (.slice (some ad) 2 c)] w (kidPost none w) := by
  go_enter Tryd.func67, Tryd.ntmps67
  go_wp2
  refine bodyPost_ret (results_kid _ _ w.heap.size _ _ _ rfl rfl (alloc_lastV _ _)) rfl ?_
  exact ⟨rfl, (Below.refl _ _).alloc (Nat.le_refl _) _⟩
set_option maxHeartbeats 4000000 in
set_option maxRecDepth 100000 in
theorem kid_il (ad : Addr) (c : Nat) (n0 : Int) (v1 : Value) (w : World) (h0 : w.cell? ad = some (.iface 3 (.int .i64 n0))) (h1 : w.cell? ⟨ad.block, ad.off + 1, none⟩ = some (.iface 99 v1)) (hb : ad.block < w.heap.size) :
    Calls Tryd.prog 67 #[.iface 99 (.slice (some ad) 2 c)] w (kidPost none w) := by
  go_enter Tryd.func67, Tryd.ntmps67
  go_wp2
  refine bodyPost_ret (results_kid _ _ w.heap.size _ _ _ rfl rfl (alloc_lastV _ _)) rfl ?_
  exact ⟨rfl, (Below.refl _ _).alloc (Nat.le_refl _) _⟩
set_option maxHeartbeats 4000000 in
set_option maxRecDepth 100000 in
theorem kid_si (ad : Addr) (c : Nat) (s0 : ByteArray) (n1 : Int) (w : World) (h0 : w.cell? ad = some (.iface 9 (.string s0))) (h1 : w.cell? ⟨ad.block, ad.off + 1, none⟩ = some (.iface 3 (.int .i64 n1))) (hb : ad.block < w.heap.size) :
    Calls Tryd.prog 67 #[.iface 99 (.slice (some ad) 2 c)] w (kidPost none w) := by
  go_enter Tryd.func67, Tryd.ntmps67
  go_wp2
  refine bodyPost_ret (results_kid _ _ w.heap.size _ _ _ rfl rfl (alloc_lastV _ _)) rfl ?_
  exact ⟨rfl, (Below.refl _ _).alloc (Nat.le_refl _) _⟩
set_option maxHeartbeats 4000000 in
set_option maxRecDepth 100000 in
theorem kid_ss (ad : Addr) (c : Nat) (s0 : ByteArray) (s1 : ByteArray) (w : World) (h0 : w.cell? ad = some (.iface 9 (.string s0))) (h1 : w.cell? ⟨ad.block, ad.off + 1, none⟩ = some (.iface 9 (.string s1))) (hb : ad.block < w.heap.size) :
    Calls Tryd.prog 67 #[.iface 99 (.slice (some ad) 2 c)] w (kidPost none w) := by
  go_enter Tryd.func67, Tryd.ntmps67
  go_wp2
  refine bodyPost_ret (results_kid _ _ w.heap.size _ _ _ rfl rfl (alloc_lastV _ _)) rfl ?_
  exact ⟨rfl, (Below.refl _ _).alloc (Nat.le_refl _) _⟩
set_option maxHeartbeats 4000000 in
set_option maxRecDepth 100000 in
theorem kid_sl (ad : Addr) (c : Nat) (s0 : ByteArray) (v1 : Value) (w : World) (h0 : w.cell? ad = some (.iface 9 (.string s0))) (h1 : w.cell? ⟨ad.block, ad.off + 1, none⟩ = some (.iface 99 v1)) (hb : ad.block < w.heap.size) :
    Calls Tryd.prog 67 #[.iface 99 (.slice (some ad) 2 c)] w (kidPost none w) := by
  go_enter Tryd.func67, Tryd.ntmps67
  go_wp2
  refine bodyPost_ret (results_kid _ _ w.heap.size _ _ _ rfl rfl (alloc_lastV _ _)) rfl ?_
  exact ⟨rfl, (Below.refl _ _).alloc (Nat.le_refl _) _⟩
set_option maxHeartbeats 4000000 in
set_option maxRecDepth 100000 in
theorem kid_li (ad : Addr) (c : Nat) (v0 : Value) (n1 : Int) (w : World) (h0 : w.cell? ad = some (.iface 99 v0)) (h1 : w.cell? ⟨ad.block, ad.off + 1, none⟩ = some (.iface 3 (.int .i64 n1))) (hb : ad.block < w.heap.size) :
    Calls Tryd.prog 67 #[.iface 99 (.slice (some ad) 2 c)] w (kidPost none w) := by
  go_enter Tryd.func67, Tryd.ntmps67
  go_wp2
  refine bodyPost_ret (results_kid _ _ w.heap.size _ _ _ rfl rfl (alloc_lastV _ _)) rfl ?_
  exact ⟨rfl, (Below.refl _ _).alloc (Nat.le_refl _) _⟩
set_option maxHeartbeats 4000000 in
set_option maxRecDepth 100000 in
theorem kid_ls (ad : Addr) (c : Nat) (v0 : Value) (s1 : ByteArray) (w : World) (h0 : w.cell? ad = some (.iface 99 v0)) (h1 : w.cell? ⟨ad.block, ad.off + 1, none⟩ = some (.iface 9 (.string s1))) (hb : ad.block < w.heap.size) :
    Calls Tryd.prog 67 #[.iface 99 (.slice (some ad) 2 c)] w (kidPost none w) := by
  go_enter Tryd.func67, Tryd.ntmps67
  go_wp2
  refine bodyPost_ret (results_kid _ _ w.heap.size _ _ _ rfl rfl (alloc_lastV _ _)) rfl ?_
  exact ⟨rfl, (Below.refl _ _).alloc (Nat.le_refl _) _⟩
set_option maxHeartbeats 4000000 in
set_option maxRecDepth 100000 in
theorem kid_ll (ad : Addr) (c : Nat) (v0 : Value) (v1 : Value) (w : World) (h0 : w.cell? ad = some (.iface 99 v0)) (h1 : w.cell? ⟨ad.block, ad.off + 1, none⟩ = some (.iface 99 v1)) (hb : ad.block < w.heap.size) :
    Calls Tryd.prog 67 #[.iface 99 (.slice (some ad) 2 c)] w (kidPost none w) := by
  go_enter Tryd.func67, Tryd.ntmps67
  go_wp2
  refine bodyPost_ret (results_kid _ _ w.heap.size _ _ _ rfl rfl (alloc_lastV _ _)) rfl ?_
  exact ⟨rfl, (Below.refl _ _).alloc (Nat.le_refl _) _⟩
set_option maxHeartbeats 4000000 in
set_option maxRecDepth 100000 in
theorem kid_ok (ad : Addr) (c : Nat) (n0 : Int) (s1 : ByteArray) (w : World) (h0 : w.cell? ad = some (.iface 3 (.int .i64 n0))) (h1 : w.cell? ⟨ad.block, ad.off + 1, none⟩ = some (.iface 9 (.string s1))) (hb : ad.block < w.heap.size) (hn0 : 0 ≤ n0) (hn1 : n0 ≤ 255) :
    Calls Tryd.prog 67 #[.iface 99 (.slice (some ad) 2 c)] w (kidPost (some ⟨n0, s1⟩) w) := by
  have hn0' : ¬ n0 < 0 := by omega
  have hn1' : ¬ (255 : Int) < n0 := by omega
  have hwn : IntKind.u8.wrap n0 = n0 := by rw [IntKind.wrap_u8]; omega
  go_enter Tryd.func67, Tryd.ntmps67
  go_wp2
  refine bodyPost_ret (results_kid _ _ w.heap.size _ _ _ rfl rfl (alloc_lastV _ _)) rfl ?_
  exact ⟨rfl, (Below.refl _ _).alloc (Nat.le_refl _) _⟩
set_option maxHeartbeats 4000000 in
set_option maxRecDepth 100000 in
theorem kid_neg (ad : Addr) (c : Nat) (n0 : Int) (s1 : ByteArray) (w : World) (h0 : w.cell? ad = some (.iface 3 (.int .i64 n0))) (h1 : w.cell? ⟨ad.block, ad.off + 1, none⟩ = some (.iface 9 (.string s1))) (hb : ad.block < w.heap.size) (hn0 : n0 < 0) :
    Calls Tryd.prog 67 #[.iface 99 (.slice (some ad) 2 c)] w (kidPost none w) := by
  go_enter Tryd.func67, Tryd.ntmps67
  go_wp2
  refine bodyPost_ret (results_kid _ _ w.heap.size _ _ _ rfl rfl (alloc_lastV _ _)) rfl ?_
  exact ⟨rfl, (Below.refl _ _).alloc (Nat.le_refl _) _⟩
set_option maxHeartbeats 4000000 in
set_option maxRecDepth 100000 in
theorem kid_big (ad : Addr) (c : Nat) (n0 : Int) (s1 : ByteArray) (w : World) (h0 : w.cell? ad = some (.iface 3 (.int .i64 n0))) (h1 : w.cell? ⟨ad.block, ad.off + 1, none⟩ = some (.iface 9 (.string s1))) (hb : ad.block < w.heap.size) (hn0 : 255 < n0) :
    Calls Tryd.prog 67 #[.iface 99 (.slice (some ad) 2 c)] w (kidPost none w) := by
  have hn0' : ¬ n0 < 0 := by omega
  go_enter Tryd.func67, Tryd.ntmps67
  go_wp2
  refine bodyPost_ret (results_kid _ _ w.heap.size _ _ _ rfl rfl (alloc_lastV _ _)) rfl ?_
  exact ⟨rfl, (Below.refl _ _).alloc (Nat.le_refl _) _⟩
theorem kid_calls (x : S42) (u : Value) (w : World) (h : AnyAt w x u) : Calls Tryd.prog 67 #[u] w (kidPost (kidD x) w) := by
  rcases any_cases h with ⟨h1, rfl⟩ | ⟨h1, rfl⟩ | ⟨h1, h2, A, c, rfl, hl, hC⟩
  · have : kidD x = none := by unfold kidD isL; rw [decide_eq_true h1]; rfl
    rw [this]; exact kid_atom _ w (.inl ⟨_, rfl⟩)
  · have : kidD x = none := by unfold kidD isL; rw [decide_eq_true h1]; simp
    rw [this]; exact kid_atom _ w (.inr ⟨_, rfl⟩)
  · have hL := isL_of h1 h2
    by_cases h3 : x.f3.length = 2
    · obtain ⟨a, b, hx⟩ : ∃ a b, x.f3 = [a, b] := by
        match hx : x.f3, h3 with
        | [a, b], _ => exact ⟨a, b, rfl⟩
      have hd : kidD x = if a.f0 = 1 ∧ b.f0 = 2 then (if 0 ≤ a.f1 ∧ a.f1 ≤ 255 then some ⟨a.f1, b.f2⟩ else none) else none := by
        unfold kidD; rw [if_pos hL, hx]
      rw [hd, h3]
      obtain ⟨ad, u0, rfl, c0, k0, hb0⟩ := any_at hC (i := 0) (x := a) (by rw [hx]; rfl)
      obtain ⟨ad1, u1, e1, c1, k1, hb1⟩ := any_at hC (i := 1) (x := b) (by rw [hx]; rfl)
      cases e1
      rw [show ad.add 0 = ad from by simp [Addr.add]] at c0 hb0
      have c1 := three_at 1 (by decide) c1
      rcases any_cases k0 with ⟨q0, rfl⟩ | ⟨q0, rfl⟩ | ⟨q0, q0', A0, d0, rfl, _⟩ <;> rcases any_cases k1 with ⟨q1, rfl⟩ | ⟨q1, rfl⟩ | ⟨q1, q1', A1, d1, rfl, _⟩
      · rw [if_neg (by omega)]; exact kid_ii ad c _ _ w c0 c1 hb0
      · rw [if_pos ⟨q0, q1⟩]
        by_cases hneg : a.f1 < 0
        · rw [if_neg (by omega)]; exact kid_neg ad c _ _ w c0 c1 hb0 hneg
        · by_cases hbig : 255 < a.f1
          · rw [if_neg (by omega)]; exact kid_big ad c _ _ w c0 c1 hb0 hbig
          · rw [if_pos (by omega)]; exact kid_ok ad c _ _ w c0 c1 hb0 (by omega) (by omega)
      · rw [if_neg (by omega)]; exact kid_il ad c _ _ w c0 c1 hb0
      · rw [if_neg (by omega)]; exact kid_si ad c _ _ w c0 c1 hb0
      · rw [if_neg (by omega)]; exact kid_ss ad c _ _ w c0 c1 hb0
      · rw [if_neg (by omega)]; exact kid_sl ad c _ _ w c0 c1 hb0
      · rw [if_neg (by omega)]; exact kid_li ad c _ _ w c0 c1 hb0
      · rw [if_neg (by omega)]; exact kid_ls ad c _ _ w c0 c1 hb0
      · rw [if_neg (by omega)]; exact kid_ll ad c _ _ w c0 c1 hb0
    · have : kidD x = none := by
        unfold kidD; rw [if_pos hL]
        split
        · rename_i hx; rw [hx] at h3; exact absurd rfl h3
        · rfl
      rw [this]; exact kid_len A _ c w h3
end Go.Proofs.YtgjlchcfdbmmlaaDoor.PObjectTakes
/- object.taken walked. -/
namespace Go.Proofs.YtgjlchcfdbmmlaaDoor.PObjectTakes
open Go.RowKit Go.Proofs.YtgjlchcfdbmmlaaDoor.Ord Go.Proofs.YtgjlchcfdbmmlaaDoor.Obj Go.Proofs.YtgjlchcfdbmmlaaDoorW.PrintWords Go.Proofs.YtgjlchcfdbmmlaaDoorW.PrintLast Go.Proofs.YtgjlchcfdbmmlaaDoorW.PrintMore
set_option linter.unusedVariables false
set_option linter.unusedSimpArgs false
attribute [local irreducible] OpGives
attribute [local go_sem] ta_ii ta_is ta_il ta_si ta_ss ta_sl ta_li ta_ls ta_ll

def rowsD : List S42 → Option (List S55)
  | [] => some []
  | x :: xs => match rowD x with | none => none | some r => (rowsD xs).map (r :: ·)
def takenP (R : Option (List S55)) : List S55 × Bool := match R with | some rs => (rs, okRows rs) | none => ([], false)
def takenR (x : S42) : List S55 × Bool := if isL x then takenP (rowsD x.f3) else ([], false)
theorem rowsD_step {l acc : List S42} {i : Nat} {x : S42} (h : l[i]? = some x) : rowsD (l.drop i) = match rowD x with | none => none | some r => (rowsD (l.drop (i + 1))).map (r :: ·) := by
  obtain ⟨hi, hx⟩ := List.getElem?_eq_some_iff.1 h
  rw [List.drop_eq_getElem_cons hi, rowsD, hx]
abbrev rR (W : World) (base : Nat) (v : Value) (l : List S55) : Prop := Kd.R k55 55 W base (fun _ => True) v l
theorem infoRow : (Tryd.prog.info? 55).map (fun i => (i.zero, i.size, i.bytes)) = some (some (.agg #[.int .i64 0, .int .i64 0, .int .i64 0, .int .i64 0, .string (⟨#[]⟩ : ByteArray)]), 5, 48) := by kernel_rfl
theorem append_row {W : World} {b0 : Nat} {v : Value} {acc : List S55} {x : S55} {g : Nat} (hR : rR W b0 v acc) (hb0 : b0 ≤ W.heap.size)
    (hg : W.heap[g]? = some (.cells #[.int .i64 x.f0, .int .i64 x.f1, .int .i64 x.f2.f0, .int .i64 x.f2.f1, .string x.f2.f2] 55 (0, 0))) (hn : acc.length ≤ 1000000) (ty : TypeId) :
    ∃ v' W', (Builtin.append_ #[23, 23] ty #[v, .slice (some ⟨g, 0, none⟩) 1 1]).run Tryd.prog W = .ok v' W' ∧ W.grownBy W' v.ownBlock ∧ rR W' b0 v' (acc ++ [x]) := by
  obtain ⟨i0, hi0, hz0, hz1, hz2⟩ := info_parts infoRow
  have hgs := (Array.getElem?_eq_some_iff.1 hg).1
  obtain ⟨h0, inner, hown, hreps⟩ := hR
  have hbn : (acc.length + 1) * 48 ≤ 1000001 * 48 := Nat.mul_le_mul (by omega) (Nat.le_refl _)
  obtain ⟨h, cap, W', hr, hown', hgr, hat, _⟩ := run_append_lies (P := Tryd.prog) W 23 ty b0 55 i0 _ 5 48 Tryd.underlying23 hi0 hz0 hz1 hz2 (by rfl) (by decide) v acc.length _ hown ⟨g, 0, none⟩ 1 1 [.int .i64 x.f0, .int .i64 x.f1, .int .i64 x.f2.f0, .int .i64 x.f2.f1, .string x.f2.f2]
    (by rfl) (World.news_of_block (cs := #[.int .i64 x.f0, .int .i64 x.f1, .int .i64 x.f2.f0, .int .i64 x.f2.f1, .string x.f2.f2]) hg) (by
      intro u hu
      simp only [List.mem_cons, List.not_mem_nil, or_false] at hu
      rcases hu with rfl | rfl | rfl | rfl | rfl <;> rfl) (by decide) (by unfold maxLen; omega) (by omega) hb0 W.heap.size rfl
  have hm3 : Kd.M k55 W b0 (fun _ => False) x [.int .i64 x.f0, .int .i64 x.f1, .int .i64 x.f2.f0, .int .i64 x.f2.f1, .string x.f2.f2] := k55_mkM W b0 _ x
  have hres := Kd.R_appended (d := k55) (e := 55) (base := b0) (ok := fun _ => True) (W := W) (w1 := W') (v := v) (v1 := .slice (some ⟨h, 0, none⟩) (acc.length + 1) cap) h0 hreps hm3 (fun k hk => hk.elim) (fun k hk => trivial) hown' hgr
    (hat.elim (fun e => .inl (by rw [e]; rfl)) (fun e => .inr ⟨h, rfl, by omega⟩))
  exact ⟨_, W', hr, hgr, hres⟩
theorem grown_belowK {α : Type} {d : Kd α} {e : Nat} {ok : Nat → Prop} {W W' : World} {b0 : Nat} {v : Value} {w : World} {acc : List α} (hR : d.R e W b0 ok v acc) (h : W.grownBy W' v.ownBlock) (hb : Below b0 w W) (hs : b0 ≤ W.heap.size) : Below b0 w W' := by
  have : Below b0 W W' := ⟨h.os, h.tape, h.output, h.size, fun k hk => by
    by_cases e : some k = v.ownBlock
    · obtain ⟨_, inner, hown, _⟩ := hR
      have := own_base hown k e.symm; omega
    · exact h.block k (by omega) e⟩
  exact hb.trans this
def TakenPost (r : List S55 × Bool) (w : World) (e : Ending) (w' : World) : Prop := ∃ A c, e = .returned (.tuple #[.slice A r.1.length c, .bool r.2]) ∧ rR w' w.heap.size (.slice A r.1.length c) r.1 ∧ Below w.heap.size w w'
set_option maxRecDepth 100000 in
theorem taken_atom (u : Value) (w : World) (hu : (∃ v, u = .iface 3 v) ∨ ∃ v, u = .iface 9 v) : Calls Tryd.prog 32 #[u] w (TakenPost ([], false) w) := by
  rcases hu with ⟨v, rfl⟩ | ⟨v, rfl⟩
  · go_enter Tryd.func32, Tryd.ntmps32
    go_wp2
    go_ret2
    exact ⟨none, 0, rfl, Kd.R_nil _ _ _ _ _, Below.refl _ _⟩
  · go_enter Tryd.func32, Tryd.ntmps32
    go_wp2
    go_ret2
    exact ⟨none, 0, rfl, Kd.R_nil _ _ _ _ _, Below.refl _ _⟩
set_option maxHeartbeats 8000000 in
set_option maxRecDepth 100000 in
theorem taken_list (l : List S42) (A : Option Addr) (c : Nat) (w : World) (hA : kA.C w A l.length l) (hl : l.length ≤ 1000000) (hT : Lib.Utf8Tabs 0 1 w) :
    Calls Tryd.prog 32 #[.iface 99 (.slice A l.length c)] w (TakenPost (takenP (rowsD l)) w) := by
  obtain ⟨R, hR⟩ : ∃ R, R = rowsD l := ⟨_, rfl⟩
  rw [← hR]
  have HA := Lib.hid hA
  have HT := Lib.hid hT
  have HRR := Lib.hid (show R = (rowsD (l.drop 0)).map (([] : List S55) ++ ·) by rw [hR, List.drop_zero]; simp)
  clear hR hA hT
  obtain ⟨RP, hRP⟩ : ∃ RP : Ending → World → Prop, RP = TakenPost (takenP R) w := ⟨_, rfl⟩
  rw [← hRP]
  have HRP := Lib.hid hRP
  clear hRP
  go_enter Tryd.func32, Tryd.ntmps32
  go_wp2_with fail
  go_loopw [6, 20] (fun v i wr => ∃ (j : Nat) (acc : List S55), i = .int .i64 (j : Int) ∧ j ≤ l.length ∧ acc.length = j ∧ rR wr w.heap.size v acc ∧ Below w.heap.size w wr ∧ Hid (R = (rowsD (l.drop j)).map (acc ++ ·))) (fun _ i _ => l.length - (intOf i).toNat)
  case atStart => exact ⟨0, [], rfl, Nat.zero_le _, rfl, Kd.R_nil _ _ _ _ _, Below.refl _ _, HRR⟩
  case round =>
    obtain ⟨i, acc, rfl, hi, hal, hrow, hbe, hr⟩ := hrel
    have HROW := Lib.hid hrow
    have HBE := Lib.hid hbe
    have HAL := Lib.hid hal
    by_cases hil : i < l.length
    · obtain ⟨x, hx⟩ : ∃ x, l[i]? = some x := ⟨_, List.getElem?_eq_getElem hil⟩
      obtain ⟨ad, u, rfl, c0, hu, hbk⟩ := any_at (Kd.C_below HA.out hbe) hx
      have hst := rowsD_step (acc := []) hx
      have hr2 := hr.out
      rw [hst] at hr2
      have HR2 := Lib.hid hr2
      have hcall := row_calls x u wr hu
      clear hst hr2 hr hx hu hrow hbe hal
      cases hrd : rowD x with
      | none =>
        rw [hrd] at hcall HR2
        have HC := Lib.hid hcall
        have hR3 : R = none := HR2.out
        subst hR3
        clear hcall hrd HR2
        go_wp2_with fail
        refine HC.out.mono ?_
        rintro e W2 ⟨rfl, hb2⟩
        have HF := Lib.hid (HBE.out.trans (hb2.mono HBE.out.size))
        clear hb2
        unfold rowVal
        simp only [Option.getD_none, Option.isSome_none]
        go_wp2_with fail
        rw [HRP.out]
        exact ⟨none, 0, rfl, Kd.R_nil _ _ _ _ _, HF.out.alloc HF.out.size _⟩
      | some y =>
        rw [hrd] at hcall HR2
        have HC := Lib.hid hcall
        clear hcall hrd
        go_wp2_with fail
        refine HC.out.mono ?_
        rintro e W2 ⟨rfl, hb2⟩
        obtain ⟨W3, hW3⟩ : ∃ W3, W3 = W2.alloc (.cells #[.int .i64 y.f0, .int .i64 y.f1, .int .i64 y.f2.f0, .int .i64 y.f2.f1, .string y.f2.f2] 55) := ⟨_, rfl⟩
        have hn3 : Below W2.heap.size W2 W3 := by rw [hW3]; exact (Below.refl _ _).alloc (Nat.le_refl _) _
        obtain ⟨W4, hW4⟩ : ∃ W4, W4 = W3.alloc (.cells #[.int .i64 y.f0, .int .i64 y.f1, .int .i64 y.f2.f0, .int .i64 y.f2.f1, .string y.f2.f2] 55) := ⟨_, rfl⟩
        have hn4 : Below W3.heap.size W3 W4 := by rw [hW4]; exact (Below.refl _ _).alloc (Nat.le_refl _) _
        have hg4 : W4.heap[W3.heap.size]? = some (.cells #[.int .i64 y.f0, .int .i64 y.f1, .int .i64 y.f2.f0, .int .i64 y.f2.f1, .string y.f2.f2] 55 (0, 0)) := by rw [hW4]; exact alloc_lastV _ _
        have hbw : Below wr.heap.size wr W4 := (hb2.trans (hn3.mono hb2.size)).trans (hn4.mono (Nat.le_trans hb2.size hn3.size))
        have hrW := Kd.R_below HROW.out hbw
        obtain ⟨v8, W8, hr8, hg8, hR8⟩ := append_row (b0 := w.heap.size) hrW (Nat.le_trans HBE.out.size hbw.size) hg4 (by have := HAL.out; omega) 23
        have hB8 := grown_belowK hrW hg8 (HBE.out.trans (hbw.mono HBE.out.size)) (Nat.le_trans HBE.out.size hbw.size)
        have HR8 := Lib.hid hR8
        have HB8 := Lib.hid hB8
        have hs3 : W3.heap.size = W2.heap.size + 1 := by rw [hW3]; simp
        rw [hs3, hW4, hW3] at hr8
        have HAPP := Lib.hid hr8
        have HR9 := Lib.hid (show R = (rowsD (l.drop (i + 1))).map ((acc ++ [y]) ++ ·) by
          rw [HR2.out, Option.map_map]; congr 1; funext z; simp)
        clear hg8 hR8 hB8 hrW hbw hg4 hn4 hW4 hn3 hW3 hb2 hr8 hs3
        unfold rowVal
        simp only [Option.getD_some, Option.isSome_some]
        go_wp2_with (refine wpList_value rfl (exec_append _ _ 23 rfl HAPP.out) ?_)
        go_roundw
        case rel => exact ⟨i + 1, acc ++ [y], by go_num, hil, by rw [List.length_append]; have := HAL.out; simp; omega, HR8.out, HB8.out, HR9⟩
        case measure => simp [intOf]; omega
    · have hie : i = l.length := by omega
      have hr2 := hr.out
      rw [hie, List.drop_length, rowsD, Option.map_some, List.append_nil] at hr2
      subst hr2
      obtain ⟨A3, c3, rfl, hlc, hC⟩ := Kd.R_reads hrow
      have HS := Lib.hid (scheck_calls acc A3 c3 wr hC hlc (Utf8Tabs_below HT.out hbe))
      have HCC := Lib.hid hrow
      clear hrow hie hbe hC hal hr
      cases hok : okRows acc with
      | true =>
        rw [hok] at HS
        go_wp2_with fail
        refine HS.out.mono ?_
        rintro e W2 ⟨rfl, hb2⟩
        have HF := Lib.hid (HBE.out.trans (hb2.mono HBE.out.size))
        have HC2 := Lib.hid (Kd.R_below HCC.out hb2)
        clear hb2
        go_wp2_with fail
        rw [HRP.out]
        exact ⟨A3, c3, by simp only [takenP, hok]; rfl, HC2.out, HF.out⟩
      | false =>
        rw [hok] at HS
        go_wp2_with fail
        refine HS.out.mono ?_
        rintro e W2 ⟨rfl, hb2⟩
        have HF := Lib.hid (HBE.out.trans (hb2.mono HBE.out.size))
        have HC2 := Lib.hid (Kd.R_below HCC.out hb2)
        clear hb2
        go_wp2_with fail
        rw [HRP.out]
        exact ⟨A3, c3, by simp only [takenP, hok]; rfl, HC2.out, HF.out⟩
theorem taken_calls (x : S42) (u : Value) (w : World) (h : AnyAt w x u) (hl : x.f3.length ≤ 1000000) (hT : Lib.Utf8Tabs 0 1 w) : Calls Tryd.prog 32 #[u] w (TakenPost (takenR x) w) := by
  rcases any_cases h with ⟨h1, rfl⟩ | ⟨h1, rfl⟩ | ⟨h1, h2, A, c, rfl, hlc, hC⟩
  · have : takenR x = ([], false) := by unfold takenR isL; rw [decide_eq_true h1]; rfl
    rw [this]; exact taken_atom _ w (.inl ⟨_, rfl⟩)
  · have : takenR x = ([], false) := by unfold takenR isL; rw [decide_eq_true h1]; simp
    rw [this]; exact taken_atom _ w (.inr ⟨_, rfl⟩)
  · have : takenR x = takenP (rowsD x.f3) := by unfold takenR; rw [if_pos (isL_of h1 h2)]
    rw [this]; exact taken_list x.f3 A c w hC hl hT
end Go.Proofs.YtgjlchcfdbmmlaaDoor.PObjectTakes
