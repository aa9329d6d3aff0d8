/-
  The program's digests of an item and of two beside one another. Conditions: the item lies in memory; the tables read as they were laid.
  The program's top of a list's leaves. Conditions: the leaves lie in memory, each of 32 bytes; the tables read as they were laid.
  The program's digest of a number and a top. Conditions: the number is below a million; the tables read as they were laid.
  The program's leaves of a list, and its root. Conditions: the items lie in memory; there are at most 65536, each of at most a thousand bytes; the tables read as they were laid.
-/
import Derived.Test.YtnfffipkgaobhaaM18
import Derived.OwnWalk
namespace Go.Proofs.Ytnfffipkgaobhaa
set_option linter.unusedSimpArgs false
set_option linter.unusedVariables false
open Go.RowKit
set_option maxRecDepth 100000

theorem leafH_len (b : List UInt8) : (leafH b).length = 32 := sha_len _
theorem innerH_len (l r : List UInt8) : (innerH l r).length = 32 := sha_len _
theorem rootH_len (n : Nat) (t : List UInt8) : (rootH n t).length = 32 := sha_len _
/-- a slice value with bytes, as a piece -/
def PieceK (l : List UInt8) : Known := fun v w => ∃ A c, v = .slice A l.length c ∧ (⟨A, c, l⟩ : Piece).ok w
theorem PieceK.steady (l : List UInt8) : Steady (PieceK l) := fun _ _ _ h hb => by
  obtain ⟨A, c, h1, h3⟩ := h
  exact ⟨A, c, h1, h3.below hb⟩
theorem pieceK_made (w : World) (b : UInt8) : PieceK [b] (.slice (some ⟨w.heap.size, 0, none⟩) 1 1) (w.alloc (.cells #[.int .u8 (b.toNat : Int)] 5)) :=
  ⟨some ⟨w.heap.size, 0, none⟩, 1, rfl, Rd.of_bk (Bk.new w _ _) 0 _ (fun j u hu => by simpa [bv] using hu), Nat.le_refl _, fun ad ha => by injection ha with ha; subst ha; simp⟩
end Go.Proofs.Ytnfffipkgaobhaa
namespace Go.Proofs.Ytnfffipkgaobhaa
set_option linter.unusedSimpArgs false
set_option linter.unusedVariables false
open Go.RowKit
set_option maxRecDepth 100000

/-- hashes, one behind the other -/
def hv (hs : List (List UInt8)) : List Value := hs.flatMap bv
theorem hv_at : ∀ (hs : List (List UInt8)) (_ : ∀ h ∈ hs, h.length = 32) (k : Nat) (hk : k < hs.length) (j : Nat) (u : Value), (bv hs[k])[j]? = some u → (hv hs)[32 * k + j]? = some u
  | h :: hs, hm, 0, hk, j, u, hu => by
    rw [hv, List.flatMap_cons, Nat.mul_zero, Nat.zero_add]
    exact List.getElem?_append_left (List.getElem?_eq_some_iff.1 hu).1 |>.trans hu
  | h :: hs, hm, k + 1, hk, j, u, hu => by
    have hl : (bv h).length = 32 := by rw [bv_length]; exact hm h (List.mem_cons_self ..)
    rw [hv, List.flatMap_cons, List.getElem?_append_right (by omega), hl, show 32 * (k + 1) + j - 32 = 32 * k + j by omega]
    exact hv_at hs (fun m' h' => hm m' (List.mem_cons_of_mem _ h')) k (by simpa using hk) j u (by simpa using hu)
theorem hv_len : ∀ (hs : List (List UInt8)) (_ : ∀ h ∈ hs, h.length = 32), (hv hs).length = 32 * hs.length
  | [], _ => rfl
  | h :: hs, hm => by
    have hl : (bv h).length = 32 := by rw [bv_length]; exact hm h (List.mem_cons_self ..)
    have := hv_len hs (fun m' h' => hm m' (List.mem_cons_of_mem _ h'))
    unfold hv at this ⊢
    rw [List.flatMap_cons, List.length_append, hl, this, List.length_cons]; omega
theorem hv_take (hs : List (List UInt8)) (hm : ∀ h ∈ hs, h.length = 32) (k : Nat) (hk : k ≤ hs.length) : hv hs = hv (hs.take k) ++ hv (hs.drop k) := by
  unfold hv
  rw [← List.flatMap_append, List.take_append_drop]
theorem rd_cells {w : World} {ad : Addr} {xs : List Value} (h : Rd w (some ad) xs) : ∀ j u, xs[j]? = some u → w.cell? (ad.add j) = some u := fun j u hu => by
  obtain ⟨a', ha, hc⟩ := h j u hu
  injection ha with ha
  rw [ha]; exact hc
theorem rd_left {w : World} {A : Option Addr} {xs ys : List Value} (h : Rd w A (xs ++ ys)) : Rd w A xs := fun j u hu => h j u (by
  rw [List.getElem?_append_left (List.getElem?_eq_some_iff.1 hu).1]; exact hu)
theorem add_comm' (ad : Addr) (p j : Nat) : (ad.add p).add j = ad.add (p + j) := by
  unfold Addr.add
  split <;> split <;> simp_all <;> omega
theorem rd_right {w : World} {ad : Addr} {xs ys : List Value} (n : Nat) (hn : xs.length = n) (h : Rd w (some ad) (xs ++ ys)) : Rd w (some (ad.add n)) ys := fun j u hu => by
  obtain ⟨a', ha, hc⟩ := h (n + j) u (by rw [List.getElem?_append_right (by omega), show n + j - xs.length = j by omega]; exact hu)
  injection ha with ha
  subst ha
  exact ⟨_, rfl, by rw [add_comm']; exact hc⟩

end Go.Proofs.Ytnfffipkgaobhaa
namespace Go.Proofs.Ytnfffipkgaobhaa
set_option linter.unusedSimpArgs false
set_option linter.unusedVariables false
open Go.RowKit
set_option maxRecDepth 100000

theorem splice_mid {xs ys zs ws : List Value} {n : Nat} (h : xs.length = n) (hl : ws.length = ys.length) : splice (xs ++ (ys ++ zs)).toArray n ws = (xs ++ (ws ++ zs)).toArray := by
  subst h
  unfold splice
  apply Array.ext'
  rw [hl]
  simp
theorem le8_take (n k : Nat) (hk : k < 8) : (le8 n).take (k + 1) = (le8 n).take k ++ [UInt8.ofNat (n / 2 ^ (8 * k))] := by
  rw [List.take_succ_eq_append_getElem (by rw [le8_len]; exact hk)]
  simp [le8]
theorem le8_byte (n k : Nat) : (n : Int) / 2 ^ (8 * k) % 256 = ((UInt8.ofNat (n / 2 ^ (8 * k))).toNat : Int) := by
  rw [byte_of]; push_cast; rfl

end Go.Proofs.Ytnfffipkgaobhaa
namespace Go.Proofs.Ytnfffipkgaobhaa
set_option linter.unusedSimpArgs false
set_option linter.unusedVariables false
open Go.RowKit
set_option maxRecDepth 100000

def lvs (ps : List Piece) : List (List UInt8) := ps.map fun p => leafH p.b
theorem lvs_len (ps : List Piece) : (lvs ps).length = ps.length := by simp [lvs]
theorem lvs_32 (ps : List Piece) : ∀ h ∈ lvs ps, h.length = 32 := by
  intro h hh
  obtain ⟨p, _, rfl⟩ := List.mem_map.1 hh
  exact leafH_len _
theorem hv_lvs_take (ps : List Piece) (k : Nat) (hk : k < ps.length) : hv (lvs (ps.take (k + 1))) = hv (lvs (ps.take k)) ++ bv (leafH (ps[k]).b) := by
  rw [List.take_succ_eq_append_getElem hk]
  simp only [lvs, hv, List.map_append, List.flatMap_append, List.map_cons, List.map_nil, List.flatMap_cons, List.flatMap_nil, List.append_nil]
theorem info_hash3 : (Try.prog.info? 27).map (fun i => (i.zero, i.size, i.bytes)) = some (some (.agg (bv (zer 32)).toArray), 32, 32) := by kernel_rfl

end Go.Proofs.Ytnfffipkgaobhaa
