/-
  getVote, getProposal without the seal: field by field, each by the Reader's call. Condition: the Reader was made by NewReader (Re).
  heard: what is read as what is signed of a vote, of a proposal: the error, or the chain's name and the thing. Condition: the bytes are within reach.
  A vote laid down with its seal; EncodeVote. Conditions: each number fits its kind; the Writer has room.
-/
import Derived.Test.YtlhnhjglcbggmaaGreatRRY14
import Derived.Test.YtlhnhjglcbggmaaGreatRRY08
import Derived.Test.YtlhnhjglcbggmaaGreatRRY05
import Derived.Test.YtlhnhjglcbggmaaGreatRRY03
namespace Go.Proofs.YtlhnhjglcbggmaaGreatRR
set_option linter.unusedSimpArgs false
set_option linter.unusedVariables false
open Go.RowKit
set_option maxRecDepth 100000

def readByte (l : List UInt8) (p : Nat) (e : Int) : Got Int := after 0 p e (coreByte l p)
def readVar (l : List UInt8) (p : Nat) (e : Int) : Got Nat := after 0 p e (coreVar l p)
def readRaw (n : Nat) (l : List UInt8) (p : Nat) (e : Int) : Got (List UInt8) := after [] p e (coreRaw l n p)
def zeroVoteR : Vote := ⟨0, 0, 0, zeros 32, 0, 0, zeros 16⟩
def rdVote (l : List UInt8) (p : Nat) (e : Int) : Got Vote :=
 let a := readByte l p e
 let b := readVar l a.at' a.err
 let c := readVar l b.at' b.err
 let d := readRaw 32 l c.at' c.err
 let f := readVar l d.at' d.err
 let h := readVar l f.at' f.err
 ⟨⟨a.val, b.val, small c.val, padded 32 d.val, f.val, h.val, zeros 16⟩, h.at', h.err⟩
theorem readByte_bd (l : List UInt8) (p : Nat) (e : Int) : 0 ≤ (readByte l p e).val ∧ (readByte l p e).val < 256 := by
 unfold readByte after coreByte
 split
 ·split
  ·exact ⟨by simp, by simp⟩
  ·rename_i b _
   have := UInt8.toNat_lt b
   exact ⟨by simp, by simp; omega⟩
 ·exact ⟨by simp, by simp⟩
theorem readRaw_le {l : List UInt8} {n p : Nat} {e : Int} : (readRaw n l p e).val.length ≤ n := after_le
theorem padded_len {n : Nat} {l : List UInt8} (h : l.length ≤ n) : (padded n l).length = n := by simp [padded, zeros]; omega

/-- a list with a part written over, told by what lies about it -/
theorem splice_of {xs ys zs ws : List Value} {n : Nat} (h : xs.length = n) (hl : ws.length = ys.length) : splice (xs ++ (ys ++ zs)).toArray n ws = (xs ++ (ws ++ zs)).toArray := by
 subst h
 unfold splice
 apply Array.ext'
 rw [hl]
 simp
theorem vote_kind (x : Vote) (v : Int) : splice x.cl.toArray 0 [.int .i64 v] = (Vote.cl { x with kind := v }).toArray := by
 simp only [Vote.cl, List.append_assoc]
 exact splice_of (xs := []) (ys := [.int .i64 x.kind]) rfl rfl
theorem vote_height (x : Vote) (v : Int) : splice x.cl.toArray 1 [.int .u64 v] = (Vote.cl { x with height := v }).toArray := by
 simp only [Vote.cl, List.append_assoc]
 exact splice_of (xs := [.int .i64 x.kind]) (ys := [.int .u64 x.height]) rfl rfl
theorem vote_round (x : Vote) (v : Int) : splice x.cl.toArray 2 [.int .i64 v] = (Vote.cl { x with round := v }).toArray := by
 simp only [Vote.cl, List.append_assoc]
 exact splice_of (xs := [.int .i64 x.kind, .int .u64 x.height]) (ys := [.int .i64 x.round]) rfl rfl
theorem voteR_id (x : Vote) (h : List UInt8) (hx : x.id.length = 32) (hh : h.length = 32) : splice x.cl.toArray 3 (bv h) = (Vote.cl { x with id := h }).toArray := by
 simp only [Vote.cl, List.append_assoc]
 exact splice_of (xs := [.int .i64 x.kind, .int .u64 x.height, .int .i64 x.round]) (ys := bv x.id) rfl (by rw [bv_length, bv_length, hx, hh])
theorem vote_time (x : Vote) (v : Int) (hx : x.id.length = 32) : splice x.cl.toArray 35 [.int .u64 v] = (Vote.cl { x with time := v }).toArray := by
 have e : x.cl = ([.int .i64 x.kind, .int .u64 x.height, .int .i64 x.round] ++ bv x.id) ++ ([.int .u64 x.time] ++ ([.int .u64 x.frm] ++ bv x.sl)) := by simp [Vote.cl]
 have e2 : Vote.cl { x with time := v } = ([.int .i64 x.kind, .int .u64 x.height, .int .i64 x.round] ++ bv x.id) ++ ([.int .u64 v] ++ ([.int .u64 x.frm] ++ bv x.sl)) := by simp [Vote.cl]
 rw [e, e2]
 exact splice_of (by simp [bv_length, hx]) rfl
theorem vote_frm (x : Vote) (v : Int) (hx : x.id.length = 32) : splice x.cl.toArray 36 [.int .u64 v] = (Vote.cl { x with frm := v }).toArray := by
 have e : x.cl = ([.int .i64 x.kind, .int .u64 x.height, .int .i64 x.round] ++ bv x.id ++ [.int .u64 x.time]) ++ ([.int .u64 x.frm] ++ bv x.sl) := by simp [Vote.cl]
 have e2 : Vote.cl { x with frm := v } = ([.int .i64 x.kind, .int .u64 x.height, .int .i64 x.round] ++ bv x.id ++ [.int .u64 x.time]) ++ ([.int .u64 v] ++ bv x.sl) := by simp [Vote.cl]
 rw [e, e2]
 exact splice_of (by simp [bv_length, hx]) rfl
theorem vote_seal (x : Vote) (h : List UInt8) (hx : x.id.length = 32) (hs : x.sl.length = 16) (hh : h.length = 16) : splice x.cl.toArray 37 (bv h) = (Vote.cl { x with sl := h }).toArray := by
 have e : x.cl = ([.int .i64 x.kind, .int .u64 x.height, .int .i64 x.round] ++ bv x.id ++ [.int .u64 x.time, .int .u64 x.frm]) ++ (bv x.sl ++ []) := by simp [Vote.cl]
 have e2 : Vote.cl { x with sl := h } = ([.int .i64 x.kind, .int .u64 x.height, .int .i64 x.round] ++ bv x.id ++ [.int .u64 x.time, .int .u64 x.frm]) ++ (bv h ++ []) := by simp [Vote.cl]
 rw [e, e2]
 exact splice_of (by simp [bv_length, hx]) (by rw [bv_length, bv_length, hs, hh])
theorem Byte_rd (w : World) (g : Nat) (A : Option Addr) (c : Nat) (l : List UInt8) (p : Nat) (e : Int) (h : Re w g A c l p e) : Calls Tryz.prog 134 #[.pointer (some ⟨g, 0, none⟩)] w (RdRes g A c l (readByte l p e) (Value.int .u8) w) := Byte_any w g A c l p e h
theorem Var_rd (w : World) (g : Nat) (A : Option Addr) (c : Nat) (l : List UInt8) (p : Nat) (e : Int) (h : Re w g A c l p e) : Calls Tryz.prog 135 #[.pointer (some ⟨g, 0, none⟩)] w (RdRes g A c l (readVar l p e) toU64 w) := Var_any w g A c l p e h
abbrev toHash (n : Nat) (x : List UInt8) : Value := .agg (bv (padded n x)).toArray
theorem Hash_rd (w : World) (g : Nat) (A : Option Addr) (c : Nat) (l : List UInt8) (p : Nat) (e : Int) (h : Re w g A c l p e) : Calls Tryz.prog 137 #[.pointer (some ⟨g, 0, none⟩)] w (RdRes g A c l (readRaw 32 l p e) (toHash 32) w) := getHash_any w g A c l p e h
theorem Seal_rd (w : World) (g : Nat) (A : Option Addr) (c : Nat) (l : List UInt8) (p : Nat) (e : Int) (h : Re w g A c l p e) : Calls Tryz.prog 193 #[.pointer (some ⟨g, 0, none⟩)] w (RdRes g A c l (readRaw 16 l p e) (toHash 16) w) := getSeal_any w g A c l p e h
theorem vote_len (x : Vote) (h : x.id.length = 32) (hs : x.sl.length = 16) : x.cl.length = 53 := by simp [Vote.cl, bv_length, h, hs]
theorem voteR_one (x : Vote) : ∀ u ∈ x.cl.toArray.toList, u.oneCell' = true := by
 intro u hu
 simp only [Vote.cl, List.mem_append, List.mem_cons, List.not_mem_nil, or_false] at hu
 rcases hu with ((h | h) | h) | h
 ·rcases h with rfl | rfl | rfl <;> rfl
 ·exact bv_one _ u h
 ·rcases h with rfl | rfl <;> rfl
 ·exact bv_one _ u h
theorem zeros_len (n : Nat) : (zeros n).length = n := by simp [zeros]
theorem bk_eq {w : World} {g : Nat} {t : TypeId} {cs cs' : Array Value} (h : Bk w g cs t) (e : cs = cs') : Bk w g cs' t := e ▸ h

theorem vote_fit (x : Vote) (h : x.id.length = 32) (hs : x.sl.length = 16) (k : Nat) (hk : k ≤ 53) : k ≤ x.cl.toArray.size := by simp [vote_len x h hs]; exact hk
theorem info_int1 : (Tryz.prog.info? 3).map (·.size) = some 1 := by kernel_rfl
theorem info_u641 : (Tryz.prog.info? 22).map (·.size) = some 1 := by kernel_rfl
theorem info_addr1 : (Tryz.prog.info? 23).map (·.size) = some 1 := by kernel_rfl
theorem info_seal16 : (Tryz.prog.info? 25).map (·.size) = some 16 := by kernel_rfl
theorem info_hash32 : (Tryz.prog.info? 29).map (·.size) = some 32 := by kernel_rfl
theorem info_vote53 : (Tryz.prog.info? 31).map (·.size) = some 53 := by kernel_rfl
theorem one_one {v : Value} (h : v.oneCell' = true) : ∀ u ∈ [v], u.oneCell' = true := by
 intro u hu
 simp at hu
 subst hu
 exact h

/-- a part of a known block written -/
theorem wpList_st {P : Program} {ops : Array Oper} {rest : List Oper} {o : Oper} {a : Act} {w : World} {Q : Exit → Act → World → Prop} (hw : Region.wanted o (yielded ops a.tmps) = true) (ty : TypeId) (x y : Operand) (ho : o.op = .store ty x y)
  (g off : Nat) (hx : a.eval x = .pointer (some ⟨g, off, none⟩)) (v : Value) (hy : a.eval y = v) (xs : List Value) (hv : v.cells.toList = xs) (n : Nat) (hi : (P.info? ty).map (·.size) = some n) (hl : xs.length = n) (cs : Array Value) (t : TypeId) (hk : Bk w g cs t) (hn : off + n ≤ cs.size) (h1 : ∀ u ∈ xs, u.oneCell' = true)
  (h : ∀ w', Bk w' g (splice cs off xs) t → w.grownBy w' (some g) → w'.heap.size = w.heap.size → wpList P ops Q rest (a.put o.dst undef) w') : wpList P ops Q (o :: rest) a w := by
 subst hv
 have hl' : v.cells.size = n := by simpa using hl
 subst hl'
 exact wpList_store_part hw ty x y ho g off hx v hy cs t hk hi hn h1 h

/-- a thing under way: what the Reader is at, what has been laid into the variable -/
structure Bld (w0 : World) (g : Nat) (A : Option Addr) (c : Nat) (l : List UInt8) (bx : Nat) (T : TypeId) (w : World) (p : Nat) (e : Int) (X : Array Value) : Prop where
 re : Re w g A c l p e
 ch : Ch [g] w0 w
 bk : Bk w bx X T
structure Side (w0 : World) (g : Nat) (A : Option Addr) (bx : Nat) : Prop where
 g : g < w0.heap.size
 a : ∀ a, A = some a → a.block < w0.heap.size
 x : w0.heap.size ≤ bx
section
variable {w0 w w' : World} {g : Nat} {A : Option Addr} {c : Nat} {l : List UInt8} {bx : Nat} {T : TypeId} {p : Nat} {e : Int} {X : Array Value}
theorem Bld.call {p' : Nat} {e' : Int} (h : Bld w0 g A c l bx T w p e X) (s : Side w0 g A bx) (ch : Ch [g] w w') (re : Re w' g A c l p' e') : Bld w0 g A c l bx T w' p' e' X :=
 ⟨re, h.ch.same ch, h.bk.ch ch (by have := s.g; have := s.x; simp; omega)⟩
theorem Bld.below (h : Bld w0 g A c l bx T w p e X) (hb : Below w.heap.size w w') : Bld w0 g A c l bx T w' p e X :=
 ⟨h.re.below hb, h.ch.same (Ch.of_below _ hb), h.bk.below hb h.bk.lt⟩
theorem Bld.store {X' Y : Array Value} (h : Bld w0 g A c l bx T w p e X) (s : Side w0 g A bx) (hk : Bk w' bx Y T) (hg : w.grownBy w' (some bx)) (he : Y = X') : Bld w0 g A c l bx T w' p e X' :=
 ⟨re_own h.re hg (by have := s.g; have := s.x; omega) (fun a ha => by have := s.a a ha; have := s.x; omega), ch_own h.ch hg s.x, he ▸ hk⟩
end

theorem splice_all {xs : List Value} {n : Nat} (h : xs.length = n) : splice xs.toArray 0 xs = xs.toArray := by
 unfold splice
 apply Array.ext'
 simp

theorem groups_bd {rest : List UInt8} : ∀ {k acc v n : Nat}, groups rest k acc = .inr (v, n) → acc < 128 ^ k → k ≤ 9 → v < 18446744073709551616 := by
 induction rest with
 | nil => intro k acc v n h; unfold groups at h; cases h
 | cons b rest ih =>
  intro k acc v n h ha hk
  have hb := UInt8.toNat_lt b
  unfold groups at h
  split at h
  ·cases h
  ·rename_i hbad
   split at h
   ·rename_i hlt
    cases h
    exact acc_lt ha hk hlt (fun h9 => by omega)
   ·rename_i hge
    by_cases h9 : k = 9
    ·omega
    ·refine ih h ?_ (by omega)
     exact acc_lt' ha (by omega)
theorem readVar_bd (l : List UInt8) (p : Nat) (e : Int) : (readVar l p e).val < 18446744073709551616 := by
 unfold readVar after coreVar
 split
 ·cases hq : groups (l.drop p) 0 0 with
  | inl x => simp
  | inr x => exact groups_bd hq (by decide) (by omega)
 ·simp
end Go.Proofs.YtlhnhjglcbggmaaGreatRR
namespace Go.Proofs.YtlhnhjglcbggmaaGreatRR
set_option linter.unusedSimpArgs false
set_option linter.unusedVariables false
open Go.RowKit
set_option maxRecDepth 100000

structure Hd (w0 : World) (g : Nat) (A : Option Addr) (c : Nat) (l : List UInt8) (b1 b2 : Nat) (Z : Array Value) (T : TypeId) (w : World) (p : Nat) (e : Int) : Prop where
 re : Re w g A c l p e
 bel : Below w0.heap.size w0 w
 z1 : Bk w b1 Z T
 z2 : Bk w b2 Z T
structure HdS (w0 : World) (g : Nat) (A : Option Addr) (b1 b2 : Nat) : Prop where
 b : w0.heap.size ≤ b1
 b12 : b1 < b2
 g : b2 < g
 a : ∀ a, A = some a → b2 < a.block
section
variable {w0 w w' : World} {g : Nat} {A : Option Addr} {c : Nat} {l : List UInt8} {b1 b2 : Nat} {Z : Array Value} {T : TypeId} {p : Nat} {e : Int}
theorem Hd.call {p' : Nat} {e' : Int} (h : Hd w0 g A c l b1 b2 Z T w p e) (s : HdS w0 g A b1 b2) (ch : Ch [g] w w') (re : Re w' g A c l p' e') : Hd w0 g A c l b1 b2 Z T w' p' e' :=
 ⟨re, h.bel.trans (ch.below (by have := h.bel.size; omega) (fun k hk => by have := s.b; have := s.b12; have := s.g; simp at hk; omega)),
  h.z1.ch ch (by have := s.b12; have := s.g; simp; omega), h.z2.ch ch (by have := s.g; simp; omega)⟩
theorem Hd.below (h : Hd w0 g A c l b1 b2 Z T w p e) (hb : Below w.heap.size w w') : Hd w0 g A c l b1 b2 Z T w' p e :=
 ⟨h.re.below hb, h.bel.trans (hb.mono h.bel.size), h.z1.below hb h.z1.lt, h.z2.below hb h.z2.lt⟩
theorem Hd.drew (h : Hd w0 g A c l b1 b2 Z T w p e) : Hd w0 g A c l b1 b2 Z T w.drew p e := ⟨re_any h.re rfl, h.bel.drew, h.z1, h.z2⟩
end
theorem I64.of_small (n : Nat) : I64 (small n) := by unfold I64 small; omega
theorem U64.of_bd {n : Nat} (h : n < 18446744073709551616) : U64 (n : Int) := ⟨by omega, by omega⟩
theorem cell_block {w : World} {a : Addr} (h : w.cell? a ≠ none) : a.block < w.heap.size := by
 cases hc : w.cell? a with
 | none => exact absurd hc h
 | some v => exact World.block_lt_of_cell? w a hc
theorem splice_same {xs ys : List Value} {n : Nat} (h : xs.length = n) (h2 : ys.length = n) : splice ys.toArray 0 xs = xs.toArray := by
 unfold splice
 apply Array.ext'
 simp only [List.take_zero, List.nil_append, Nat.zero_add]
 rw [List.drop_of_length_le (by omega), List.append_nil]
theorem Hd.own {w0 w w' : World} {g : Nat} {A : Option Addr} {c : Nat} {l : List UInt8} {b1 b2 b : Nat} {Z : Array Value} {T : TypeId} {p : Nat} {e : Int} (h : Hd w0 g A c l b1 b2 Z T w p e) (hg : w.grownBy w' (some b)) (h1 : g < b) (h2 : ∀ a, A = some a → a.block < b) (h3 : b1 < b) (h4 : b2 < b) (h5 : w0.heap.size ≤ b) : Hd w0 g A c l b1 b2 Z T w' p e :=
 ⟨re_own h.re hg h1 h2, h.bel.grown hg h.bel.size (fun k hk => by cases hk; exact h5), h.z1.grown hg (by simp; omega), h.z2.grown hg (by simp; omega)⟩

end Go.Proofs.YtlhnhjglcbggmaaGreatRR
namespace Go.Proofs.YtlhnhjglcbggmaaGreatRR
set_option linter.unusedSimpArgs false
set_option linter.unusedVariables false
open Go.RowKit
set_option maxRecDepth 100000


theorem cl_seal_at (x : Vote) (hi : x.id.length = 32) (j : Nat) (u : Value) (h : (bv x.sl)[j]? = some u) : x.cl.toArray[37 + j]? = some u := by
 have e : x.cl = ([.int .i64 x.kind, .int .u64 x.height, .int .i64 x.round] ++ bv x.id ++ [.int .u64 x.time, .int .u64 x.frm]) ++ bv x.sl := by simp [Vote.cl]
 have el : ([.int .i64 x.kind, .int .u64 x.height, .int .i64 x.round] ++ bv x.id ++ [.int .u64 x.time, .int .u64 x.frm] : List Value).length = 37 := by simp [bv_length, hi]
 rw [List.getElem?_toArray, e, List.getElem?_append_right (by omega), el, Nat.add_sub_cancel_left]
 exact h
set_option maxHeartbeats 1000000 in
theorem putVote_raw (w : World) (B g : Nat) (bs : List UInt8) (x : Vote) (hx : x.ok) (hp : VoteB x) (hw : Wr w B g bs) (hb : bs.length + 200 ≤ room46) :
  Calls Tryz.prog 76 #[.pointer (some ⟨g, 0, none⟩), .agg x.cl.toArray, .func (.func 77) #[.pointer (some ⟨g, 0, none⟩)] #[]] w fun e w' => e = .returned (.tuple #[]) ∧ Wr w' B g (bs ++ (encVote x ++ x.sl)) ∧ Eff B WrT w w' := by
 obtain ⟨k1, k2, h1, h2, r1, r2, t1, t2, _, f1, f2⟩ := hp
 have lh := varB_int (n := x.height) (by omega) (by unfold two64; omega)
 have lr := varB_int (n := x.round) (by omega) (by unfold two64; omega)
 have lt := varB_int (n := x.time) (by omega) (by unfold two64; omega)
 have lf := varB_int (n := x.frm) (by omega) (by unfold two64; omega)
 have li := hx.id
 have ls := hx.sl
 have F2 := Lib.hid f2; clear f2
 have Li := Lib.hid li; clear li
 have Ls := Lib.hid ls; clear ls
 go_enter Tryz.func76, Tryz.ntmps76
 go_wp2_with (refine wpList_box_bk rfl _ _ rfl _ rfl ?_)
 intro bx w1 hk hbl hg hs
 clear hg hs
 have hw1 := hw.below hbl
 have c0 : w1.cell? ⟨bx, 0, none⟩ = some (.int .i64 x.kind) := hk.cell 0
 go_wp2_with fail
 refine (byte_int _ B g bs x.kind hw1 (by omega) (by omega) (by omega)).mono ?_
 rintro e w2 ⟨rfl, hw2, e2⟩
 have hk2 := hk.effT e2 (by decide)
 have c1 : w2.cell? ⟨bx, 1, none⟩ = some (.int .u64 x.height) := hk2.cell 1
 go_wp2_with fail
 refine (var_int _ B g _ x.height hw2 (by omega) (by unfold two64; omega) (by simp only [List.length_append, List.length_cons, List.length_nil]; omega)).mono ?_
 rintro e w3 ⟨rfl, hw3, e3⟩
 have hk3 := hk2.effT e3 (by decide)
 have c2 : w3.cell? ⟨bx, 2, none⟩ = some (.int .i64 x.round) := hk3.cell 2
 go_wp2_with fail
 refine (var_int _ B g _ x.round hw3 (by omega) (by unfold two64; omega) (by simp only [List.length_append, List.length_cons, List.length_nil]; omega)).mono ?_
 rintro e w4 ⟨rfl, hw4, e4⟩
 have hk4 := hk3.effT e4 (by decide)
 go_wp2_with (refine wpList_load_part rfl 29 _ rfl bx 3 32 rfl _ _ _ hk4 Tryz.underlying29 rfl info_hash (by have := x.cl_len hx; simp [this]) _ (x.cl_id hx.id) ?_)
 refine (putHash_any _ B g _ x.id hw4 Li.out (by simp only [List.length_append, List.length_cons, List.length_nil]; omega)).mono ?_
 rintro e w5 ⟨rfl, hw5, e5⟩
 have hk5 := hk4.effT e5 (by decide)
 have c3 : w5.cell? ⟨bx, 35, none⟩ = some (.int .u64 x.time) := (hk5.cell 35).trans (x.cl_35 hx.id)
 go_wp2_with fail
 refine (var_int _ B g _ x.time hw5 (by omega) (by unfold two64; omega) (by simp only [List.length_append, List.length_cons, List.length_nil, Li.out]; omega)).mono ?_
 rintro e w6 ⟨rfl, hw6, e6⟩
 have hk6 := hk5.effT e6 (by decide)
 have c4 : w6.cell? ⟨bx, 36, none⟩ = some (.int .u64 x.frm) := (hk6.cell 36).trans (x.cl_36 hx.id)
 go_wp2_with fail
 refine (var_int _ B g _ x.frm hw6 (by omega) (by unfold two64; exact F2.out) (by simp only [List.length_append, List.length_cons, List.length_nil, Li.out]; omega)).mono ?_
 rintro e w7 ⟨rfl, hw7, e7⟩
 have hk7 := hk6.effT e7 (by decide)
 have hr7 : Rd w7 (some ⟨bx, 37, none⟩) (bv x.sl) := Rd.of_bk hk7 37 _ (fun j u hu => cl_seal_at x hx.id j u hu)
 go_wp2_with fail
 refine (raw_any _ B g _ x.sl _ 16 16 hw7 hr7 Ls.out (by simp only [List.length_append, List.length_cons, List.length_nil, Li.out]; omega)).mono ?_
 rintro e w8 ⟨rfl, hw8, e8⟩
 go_wp2
 go_end0
 refine ⟨rfl, ?_, (Eff.of_below hbl _ _).trans (e2.trans (e3.trans (e4.trans (e5.trans (e6.trans (e7.trans e8))))))⟩
 unfold encVote
 simpa only [List.append_assoc] using hw8

set_option maxHeartbeats 1000000 in
theorem putSealedVote_any (w : World) (B g : Nat) (bs : List UInt8) (x : Vote) (hx : x.ok) (hp : VoteB x) (hw : Wr w B g bs) (hb : bs.length + 200 ≤ room46) :
  Calls Tryz.prog 29 #[.pointer (some ⟨g, 0, none⟩), .agg x.cl.toArray] w fun e w' => e = .returned (.tuple #[]) ∧ Wr w' B g (bs ++ (encVote x ++ x.sl)) ∧ Eff B WrT w w' := by
 have HP := Lib.hid hp
 have HB := Lib.hid hb
 clear hp hb
 go_enter Tryz.func29, Tryz.ntmps29
 go_wp2_with (with_reducible show wpList _ _ _ (Oper.mk _ (Op.box _ _) _ _ _ _ :: _) _ _; refine wpList_box_bk rfl _ _ rfl _ rfl ?_)
 intro bx w1 hk hbl hg hs
 clear hg hs
 have hw1 := hw.below hbl
 go_wp2_with (with_reducible show wpList _ _ _ (Oper.mk _ (Op.load _ _) _ _ _ _ :: _) _ _; refine wpList_load_part rfl 31 _ rfl bx 0 53 rfl _ _ _ hk Tryz.underlying31 rfl info_Vote (by have := x.cl_len hx; simp [Value.cells, this]) _ (cl_all (x.cl_len hx)) ?_)
 refine (putVote_raw w1 B g bs x hx HP.out hw1 HB.out).mono ?_
 rintro e w2 ⟨rfl, hw2, e2⟩
 go_wp2
 go_end0
 exact ⟨rfl, hw2, (Eff.of_below hbl _ _).trans e2⟩

def formVote (x : Vote) : List UInt8 := encVote x ++ x.sl
set_option maxHeartbeats 2000000 in
theorem encodeVote_any (w : World) (x : Vote) (hx : x.ok) :
  Calls Tryz.prog 27 #[.agg x.cl.toArray, .int .i64 9223372036854775807, .func (.func 28) #[] #[], .func (.func 29) #[] #[]] w (BytesRes w (plainVote x) (formVote x)) := by
 have HX := Lib.hid hx
 have HL := Lib.hid (x.cl_len hx)
 clear hx
 obtain ⟨F, hF⟩ : ∃ F, plainVote x = F := ⟨_, rfl⟩
 have HF := Lib.hid hF
 rw [hF]
 clear hF
 by_cases hf : F = 0
 ·have HB := Lib.hid (voteB HX.out (HF.out.trans hf))
  have f1 : (F != 0) = false := by simp [hf]
  have f2 : (F == 0) = true := by simp [hf]
  have HZ := Lib.hid hf
  clear hf
  go_enter Tryz.func27, Tryz.ntmps27
  go_wp2_with (first
   | (with_reducible show wpList _ _ _ (Oper.mk _ (Op.box _ _) _ _ _ _ :: _) _ _; refine wpList_box_bk rfl _ _ rfl _ rfl ?_; intro bx w1 hk hbl hg hs; have HK1 := Lib.hid (bk_eq (cs' := x.cl.toArray) hk rfl); have HB1 := Lib.hid hbl; clear hk hbl hg hs)
   | (with_reducible show wpList _ _ _ (Oper.mk (some 15) (Op.load _ _) _ _ _ _ :: _) _ _; refine wpList_load_part rfl 31 _ rfl bx 0 53 rfl _ _ _ HK1.out Tryz.underlying31 rfl info_Vote (by simp [HL.out]) _ (cl_all HL.out) ?_))
  refine (plainVote_any w1 x HX.out).mono ?_
  rintro e w2 ⟨rfl, e2⟩
  rw [HF.out]
  have HB2 := Lib.hid (HB1.out.trans (e2.mono HB1.out.size))
  have HK2 := Lib.hid (HK1.out.below e2 HK1.out.lt)
  clear e2 HB1 HK1
  go_wp2_with fail
  refine (newWriter_any w2).mono ?_
  rintro e w3 ⟨g, rfl, hw3, e3⟩
  have HK3 := Lib.hid (HK2.out.below e3 HK2.out.lt)
  have HS2 := Lib.hid HB2.out.size
  have HS3 := Lib.hid e3.size
  have HB3 := Lib.hid (HB2.out.trans (e3.mono HB2.out.size))
  clear e3 HK2
  go_wp2_with (with_reducible show wpList _ _ _ (Oper.mk (some 23) (Op.load _ _) _ _ _ _ :: _) _ _; refine wpList_load_part rfl 31 _ rfl bx 0 53 rfl _ _ _ HK3.out Tryz.underlying31 rfl info_Vote (by simp [HL.out]) _ (cl_all HL.out) ?_)
  refine (putSealedVote_any w3 _ g [] x HX.out HB.out hw3 (by unfold room46; simp)).mono ?_
  rintro e w4 ⟨rfl, hw4, e4⟩
  have hlen : ([] ++ (encVote x ++ x.sl)).length ≤ reach47 ∧ ([] ++ (encVote x ++ x.sl)).length ≤ 300 := by
   have h1 := encVote_len HX.out HB.out
   have h2 := HX.out.sl
   unfold reach47
   simp only [List.nil_append, List.length_append, h2]
   omega
  have HLEN := Lib.hid hlen
  have HB4 := Lib.hid (HB3.out.trans (e4.to HS2.out HS3.out))
  clear hlen e4
  go_wp2_with fail
  refine (out_any w4 _ g _ hw4 HLEN.out.1).mono ?_
  rintro e w5 ⟨v, rfl, hv, e5⟩
  obtain ⟨Av, cv, rfl⟩ := hv.form
  have HB5 := Lib.hid (HB4.out.trans (e5.mono HB4.out.size))
  have HV := Lib.hid (hv.mono HB4.out.size)
  have HE := Lib.hid (show ([] ++ (encVote x ++ x.sl) : List UInt8) = formVote x from rfl)
  rw [HE.out] at HLEN HV ⊢
  obtain ⟨bs, hbs⟩ : ∃ bs, formVote x = bs := ⟨_, rfl⟩
  rw [hbs] at HLEN HV ⊢
  obtain ⟨L, hL⟩ : ∃ L, bs.length = L := ⟨_, rfl⟩
  have HLL := Lib.hid hL
  have HBS := Lib.hid hbs
  rw [hL] at HLEN HV ⊢
  have hl9 : ¬ ((9223372036854775807 : Int) < (L : Int)) := by have := HLEN.out.2; omega
  have HX2 := Lib.hid HLEN
  clear hv e5 hw3 hw4 hbs HE HLEN hL
  go_wp2
  go_ret2
  exact ⟨HB5.out, .inr ⟨HZ.out, .slice Av L cv, rfl, by rw [HBS.out]; exact HV.out⟩⟩
 ·have f1 : (F != 0) = true := by simp [hf]
  have f2 : (F == 0) = false := by simp [hf]
  have HZ := Lib.hid hf
  clear hf
  go_enter Tryz.func27, Tryz.ntmps27
  go_wp2_with (first
   | (with_reducible show wpList _ _ _ (Oper.mk _ (Op.box _ _) _ _ _ _ :: _) _ _; refine wpList_box_bk rfl _ _ rfl _ rfl ?_; intro bx w1 hk hbl hg hs; have HK1 := Lib.hid (bk_eq (cs' := x.cl.toArray) hk rfl); have HB1 := Lib.hid hbl; clear hk hbl hg hs)
   | (with_reducible show wpList _ _ _ (Oper.mk (some 15) (Op.load _ _) _ _ _ _ :: _) _ _; refine wpList_load_part rfl 31 _ rfl bx 0 53 rfl _ _ _ HK1.out Tryz.underlying31 rfl info_Vote (by simp [HL.out]) _ (cl_all HL.out) ?_))
  refine (plainVote_any w1 x HX.out).mono ?_
  rintro e w2 ⟨rfl, e2⟩
  rw [HF.out]
  have HB2 := Lib.hid (HB1.out.trans (e2.mono HB1.out.size))
  clear e2
  go_wp2
  go_ret2
  exact ⟨HB2.out, .inl ⟨HZ.out, rfl⟩⟩

set_option maxHeartbeats 1000000 in
theorem EncodeVote_any (w : World) (x : Vote) (hx : x.ok) :
  Calls Tryz.prog 10 #[.agg x.cl.toArray] w (BytesRes w (plainVote x) (formVote x)) := by
 have HL := Lib.hid (x.cl_len hx)
 have HX := Lib.hid hx
 clear hx
 generalize hF : plainVote x = F
 have HF := Lib.hid hF
 clear hF
 go_enter Tryz.func10, Tryz.ntmps10
 go_wp2_with (first
   | (with_reducible show wpList _ _ _ (Oper.mk _ (Op.box _ _) _ _ _ _ :: _) _ _; refine wpList_box_bk rfl _ _ rfl _ rfl ?_; intro bx w1 hk hbl hg hs; have HK1 := Lib.hid (bk_eq (cs' := x.cl.toArray) hk rfl); have HB1 := Lib.hid hbl; clear hk hbl hg hs)
   | (with_reducible show wpList _ _ _ (Oper.mk (some 4) (Op.load _ _) _ _ _ _ :: _) _ _; refine wpList_load_part rfl 31 _ rfl bx 0 53 rfl _ _ _ HK1.out Tryz.underlying31 rfl info_Vote (by simp [HL.out]) _ (cl_all HL.out) ?_))
 refine (encodeVote_any w1 x HX.out).mono ?_
 rw [HF.out]
 rintro e w2 ⟨e2, ⟨hz, rfl⟩ | ⟨hz, v, rfl, hv⟩⟩
 ·have HZ := Lib.hid hz
  have HB2 := Lib.hid (HB1.out.trans (e2.mono HB1.out.size))
  clear hz e2
  go_wp2
  go_ret2
  exact ⟨HB2.out, .inl ⟨HZ.out, rfl⟩⟩
 ·obtain ⟨Av, cv, rfl⟩ := hv.form
  have HZ := Lib.hid hz
  have HB2 := Lib.hid (HB1.out.trans (e2.mono HB1.out.size))
  have HV := Lib.hid (hv.mono HB1.out.size)
  clear hz e2 hv
  go_wp2
  go_ret2
  exact ⟨HB2.out, .inr ⟨HZ.out, _, rfl, HV.out⟩⟩
end Go.Proofs.YtlhnhjglcbggmaaGreatRR
