/- Walks of the digest: a hash that holds a text; the digest of a text. -/
import Derived.Test.YtjnbdikhajnciaaDl
namespace Go.Proofs.Ytjnbdikhajnciaa.Dig
open Go.RowKit Go.Proofs.Ytjnbdikhajnciaa.Sha Go.Proofs.Ytjnbdikhajnciaa.Ord

/-- The hash at b holds the text l. -/
def Holds (w : World) (b : Nat) (l : List UInt8) : Prop :=
  ∃ r : ByteArray, HashAt w b true (run init (l.length / 64) l) r ((l.length : Nat) : Int) ∧ r.data.toList = l.drop (64 * (l.length / 64))
theorem Holds.lt {w : World} {b : Nat} {l : List UInt8} (h : Holds w b l) : b < w.heap.size := by obtain ⟨r, h, _⟩ := h; exact h.lt
theorem Holds.below {w w' : World} {b B : Nat} {l : List UInt8} (h : Holds w b l) (hb : Below B w w') (hlt : b < B) : Holds w' b l := by
  obtain ⟨r, h, hr⟩ := h; exact ⟨r, h.below hb hlt, hr⟩
theorem rest_size {r : ByteArray} {l : List UInt8} (hr : r.data.toList = l.drop (64 * (l.length / 64))) : r.size = l.length % 64 := by
  have h : r.data.toList.length = (l.drop (64 * (l.length / 64))).length := by rw [hr]
  simp only [List.length_drop, Array.length_toList] at h
  have : r.size = r.data.size := rfl
  omega

theorem new_holds (w : World) :
    Calls Try.prog 15 #[] w fun e w' => ∃ b, e = .returned (.pointer (some ⟨b, 0, none⟩)) ∧ w.heap.size ≤ b ∧ Holds w' b [] ∧ Below w.heap.size w w' :=
  (new_any w).mono fun _ _ ⟨b, he, hb, hh, hbl⟩ => ⟨b, he, hb, ⟨⟨#[]⟩, hh, rfl⟩, hbl⟩

theorem run_more (l s : List UInt8) (q : Nat) (hq : q = l.length / 64) (m : Nat) : run (run init q l) m (l.drop (64 * q) ++ s) = run init (q + m) (l ++ s) := by
  rw [run_add, run_pre init q l s (by omega), List.drop_append_of_le_length (by omega)]

theorem put_holds (b : Nat) (l : List UInt8) (s : ByteArray) (w : World) (h : Holds w b l) (hl : l.length ≤ 800000) (hs : s.size ≤ 800000) :
    Calls Try.prog 16 #[.pointer (some ⟨b, 0, none⟩), .string s] w fun e w' => e = .returned (.int .i64 0) ∧ Holds w' b (l ++ s.data.toList) ∧ w.grownBy w' (some b) := by
  obtain ⟨r, h, hr⟩ := h
  have hrs := rest_size hr
  refine (put_at b _ r s l.length w h (by omega) (by omega) (by omega)).mono ?_
  rintro e w' ⟨he, ⟨r', hh, hr'⟩, hg⟩
  refine ⟨he, ⟨r', ?_, ?_⟩, hg⟩
  · have hlen : (l ++ s.data.toList).length = l.length + s.size := by simp
    rw [hr, run_more l _ _ rfl] at hh
    have e1 : l.length / 64 + (r.size + s.size) / 64 = (l.length + s.size) / 64 := by omega
    rw [hlen, ← e1]
    exact hh
  · have hlen : (l ++ s.data.toList).length = l.length + s.size := by simp
    rw [hr', hr, hlen]
    have e1 : 64 * ((l.length + s.size) / 64) = 64 * (l.length / 64) + 64 * ((r.size + s.size) / 64) := by omega
    have e2 : (l ++ s.data.toList).drop (64 * (l.length / 64)) = l.drop (64 * (l.length / 64)) ++ s.data.toList := List.drop_append_of_le_length (by omega)
    rw [e1, ← List.drop_drop, e2]

theorem sum_holds (b : Nat) (l : List UInt8) (w : World) (h : Holds w b l) (hl : l.length ≤ 800000) :
    Calls Try.prog 17 #[.pointer (some ⟨b, 0, none⟩)] w fun e w' => e = .returned (.string ⟨(sum l).toArray⟩) ∧ Below w.heap.size w w' := by
  obtain ⟨r, h, hr⟩ := h
  have hrs := rest_size hr
  refine (sum_at b _ r l.length w h (by omega) (by omega)).mono ?_
  rintro e w' ⟨he, hb⟩
  refine ⟨?_, hb⟩
  rw [he, hr, run_more l _ _ rfl]
  have htl := tail_len l.length
  have e1 : l.length / 64 + (r.size + (tail l.length).length) / 64 = (l.length + (tail l.length).length) / 64 := by omega
  rw [e1]; rfl

theorem len_holds (b : Nat) (l : List UInt8) (w : World) (h : Holds w b l) :
    Calls Try.prog 18 #[.pointer (some ⟨b, 0, none⟩)] w fun e w' => e = .returned (.int .i64 ((l.length : Nat) : Int)) ∧ w = w' := by
  obtain ⟨r, h, hr⟩ := h
  exact len_at b _ r _ w h

set_option maxRecDepth 100000 in
set_option maxHeartbeats 8000000 in
theorem sum_any (s : ByteArray) (hs : s.size ≤ 800000) (w : World) :
    Calls Try.prog 13 #[.string s] w fun e w' => e = .returned (.string ⟨(sum s.data.toList).toArray⟩) ∧ Below w.heap.size w w' := by
  have hsl : s.data.toList.length ≤ 800000 := by simpa using hs
  have HSL := Lib.hid hsl
  clear hsl
  go_enter Try.func13, Try.ntmps13
  go_wp2_with fail
  refine (new_holds _).mono ?_
  rintro e w1 ⟨b, rfl, hbge, hH, hb1⟩
  go_wp2_with fail
  refine (put_holds b [] s _ hH (by simp) (by omega)).mono ?_
  rintro e w2 ⟨rfl, hH2, hg⟩
  go_wp2_with fail
  refine (sum_holds b _ _ hH2 (by simpa using HSL.out)).mono ?_
  rintro e w3 ⟨rfl, hb3⟩
  go_wp2_with fail
  go_ret
  have hb2 := hb1.size
  refine ⟨by rfl, (hb1.grown hg hb2 (fun k hk => by injection hk with hk; omega)).trans (hb3.mono (by have := hg.size; omega))⟩
end Go.Proofs.Ytjnbdikhajnciaa.Dig
