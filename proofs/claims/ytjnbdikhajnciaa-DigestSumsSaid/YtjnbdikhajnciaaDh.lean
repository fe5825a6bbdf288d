/- Walks of the digest: a state's bytes. -/
import Derived.Test.YtjnbdikhajnciaaDg
import Derived.Test.YtjnbdikhajnciaaWWords
namespace Go.Proofs.Ytjnbdikhajnciaa.Dig
open Go.RowKit Go.Proofs.Ytjnbdikhajnciaa.Sha Go.Proofs.Ytjnbdikhajnciaa.Ord Go.Proofs.YtjnbdikhajnciaaW.PrintWords

theorem info5 : (Try.prog.info? 5).map (fun i => (i.zero, i.size, i.bytes)) = some (some (.int .u8 0), 1, 1) := by kernel_rfl
/-- Bytes as numbers. -/
def ints (l : List UInt8) : List Int := l.map fun b => (b.toNat : Int)
theorem ints_append (a b : List UInt8) : ints (a ++ b) = ints a ++ ints b := List.map_append
theorem str_ints (l : List UInt8) : (strOfNums (ints l)) = ⟨l.toArray⟩ := by
  simp [strOfNums, ints, Function.comp_def]

theorem byte_shr (x : BitVec 32) (n : Nat) : IntKind.u8.wrap (u x / 2 ^ n) = ((UInt8.ofNat (x.toNat / 2 ^ n)).toNat : Int) := by
  rw [IntKind.wrap_u8]; simp [u]
theorem byte_24 (x : BitVec 32) : IntKind.u8.wrap (u x / (16777216 : Int)) = ((UInt8.ofNat (x.toNat / 2 ^ 24)).toNat : Int) := byte_shr x 24
theorem byte_16 (x : BitVec 32) : IntKind.u8.wrap (u x / (65536 : Int)) = ((UInt8.ofNat (x.toNat / 2 ^ 16)).toNat : Int) := byte_shr x 16
theorem byte_8 (x : BitVec 32) : IntKind.u8.wrap (u x / (256 : Int)) = ((UInt8.ofNat (x.toNat / 2 ^ 8)).toNat : Int) := byte_shr x 8
theorem byte_0 (x : BitVec 32) : IntKind.u8.wrap (u x) = ((UInt8.ofNat x.toNat).toNat : Int) := by
  rw [IntKind.wrap_u8]; simp [u]

theorem bytesOf_spec (v : BitVec 32) : ∃ b3 b2 b1 b0 : UInt8, bytesOf v = [b3, b2, b1, b0] ∧ IntKind.u8.wrap (u v / (16777216 : Int)) = (b3.toNat : Int) ∧ IntKind.u8.wrap (u v / (65536 : Int)) = (b2.toNat : Int) ∧ IntKind.u8.wrap (u v / (256 : Int)) = (b1.toNat : Int) ∧ IntKind.u8.wrap (u v) = (b0.toNat : Int) :=
  ⟨_, _, _, _, rfl, byte_24 v, byte_16 v, byte_8 v, byte_0 v⟩
theorem cells_new (w : World) (l : List Value) (t : TypeId) (j : Nat) (u : Value) (h : l[j]? = some u) : (w.alloc (.cells l.toArray t)).cell? ((⟨w.heap.size, 0, none⟩ : Addr).add j) = some u := by
  have hadd : (⟨w.heap.size, 0, none⟩ : Addr).add j = ⟨w.heap.size, j, none⟩ := by unfold Addr.add; split <;> simp_all
  rw [hadd, cell_of_row _ _ j _ t (0, 0) (heap_alloc_last w _)]; simpa using h
theorem nums_one (k : IntKind) (l : List Int) (v : Value) (h : v ∈ nums k l) : v.oneCell' = true := by
  obtain ⟨x, _, rfl⟩ := List.mem_map.1 h; rfl

/-- The bytes of the first k words of a state. -/
def pre (x : S8) (k : Nat) : List UInt8 := ((S8.words x).take k).flatMap bytesOf
theorem pre_succ (x : S8) : ∀ k : Nat, k < 8 → pre x (k + 1) = pre x k ++ bytesOf ((S8.words x).getD k 0)
  | 0, _ => rfl
  | 1, _ => rfl
  | 2, _ => rfl
  | 3, _ => rfl
  | 4, _ => rfl
  | 5, _ => rfl
  | 6, _ => rfl
  | 7, _ => rfl
theorem pre_8 (x : S8) : pre x 8 = x.bytes := rfl
theorem pre_len (x : S8) : ∀ k : Nat, k ≤ 8 → (pre x k).length = 4 * k
  | 0, _ => rfl
  | 1, _ => rfl
  | 2, _ => rfl
  | 3, _ => rfl
  | 4, _ => rfl
  | 5, _ => rfl
  | 6, _ => rfl
  | 7, _ => rfl
  | 8, _ => rfl

set_option maxRecDepth 100000 in
set_option maxHeartbeats 8000000 in
theorem bytes_any (x : S8) (w : World) :
    Calls Try.prog 49 #[.agg x.cells.toArray] w fun e w' => e = .returned (.string ⟨x.bytes.toArray⟩) ∧ Below w.heap.size w w' := by
  obtain ⟨i0, hi, hz0, hz1, hz2⟩ := info_parts info5
  go_enter Try.func49, Try.ntmps49
  go_wp2_with (refine wpList_load_row rfl 35 _ rfl w.heap.size rfl 35 (Us (S8.words x)).toArray (0, 0) _ (heap_alloc_last w _) Try.underlying35 rfl (by rw [info35]; rfl) ?_)
  go_loopw [3, 7] (fun v i wr => ∃ k : Nat, k ≤ 8 ∧ i = .int .i64 k ∧ wr.ownsRow w.heap.size 5 1 v (4 * k) (nums .u8 (ints (pre x k))) ∧ Below w.heap.size w wr) (fun _ i _ => 8 - (intOf i).toNat)
  case atStart => exact ⟨0, by omega, rfl, World.ownsRow_nil _ _ _ _, (Below.refl _ _).alloc (Nat.le_refl _) _⟩
  case round =>
    obtain ⟨k, hk, rfl, hown, hbel⟩ := hrel
    by_cases hlt : k < 8
    · have hx := run_index_Us (P := Try.prog) 35 33 8 (S8.words x) k Try.underlying35 (by kernel_rfl) Try.underlying33 rfl hlt
      have hps := pre_succ x k hlt
      generalize (S8.words x).getD k 0 = v0 at *
      have HPS := Lib.hid hps
      clear hps
      obtain ⟨b3, b2, b1, b0, hbs, e24, e16, e8, e0⟩ := bytesOf_spec v0
      rw [hbs] at HPS
      clear hbs
      have hsz := hbel.size
      have hU : U v0 = .int .u32 (u v0) := rfl
      go_wp2_with (at_builtin; refine wpList_append_own _ rfl _ _ 87 rfl w.heap.size 5 i0 (.int .u8 0) 1 1 Try.underlying87 hi hz0 hz1 hz2 rfl (by decide) _ _ _ rfl (hown.alloc _) ⟨wr.heap.size, 0, none⟩ 4 4 (nums .u8 (ints [b3, b2, b1, b0])) rfl rfl ?c1 ?c2 ?c3 ?c4 ?c5 ?_)
      case c1 => exact fun j u h => cells_new wr (nums .u8 (ints [b3, b2, b1, b0])) _ j u h
      case c2 => exact fun v hv => nums_one _ _ v hv
      case c3 => unfold maxLen; omega
      case c4 => omega
      case c5 => simp; omega
      intro v' w1 hown' hgrow _
      have hb1 : Below w.heap.size w w1 := (hbel.alloc (by omega) _).grown hgrow (by simp; omega) (fun j hj => (hown.lt j hj).1)
      clear hgrow
      go_wp2_with fail
      go_roundw
      case rel =>
        refine ⟨k + 1, by omega, by go_num, ?_, hb1⟩
        rw [HPS.out, ints_append, nums_append]
        exact hown'
      case measure => simp [intOf]; omega
    · have hd : decide ((k : Int) < 8) = false := decide_eq_false (by omega)
      have hown8 : wr.ownsRow w.heap.size 5 1 u3 32 (nums .u8 (ints x.bytes)) := by
        have e : k = 8 := by omega
        subst e
        exact hown
      have hcv := own_string (P := Try.prog) Try.underlying87 Try.underlying5 Try.underlying9 hown8
      rw [str_ints] at hcv
      go_wp2_with fail
      go_ret
      exact ⟨rfl, hbel⟩
end Go.Proofs.Ytjnbdikhajnciaa.Dig
