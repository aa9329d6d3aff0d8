/-
  getVote, getProposal without the seal: field by field, each by the Reader's call. Condition: the Reader was made by NewReader (Re).
-/
import Derived.Test.YtocgcalaiejbiaaRd9
namespace Go.Proofs.Ytocgcalaiejbiaa
set_option linter.unusedSimpArgs false
set_option linter.unusedVariables false
open Go.RowKit
set_option maxRecDepth 100000

def readByte (l : List UInt8) (p : Nat) (e : Int) : Got Int := after 0 p e (coreByte l p)
def readVar (l : List UInt8) (p : Nat) (e : Int) : Got Nat := after 0 p e (coreVar l p)
def readRaw (n : Nat) (l : List UInt8) (p : Nat) (e : Int) : Got (List UInt8) := after [] p e (coreRaw l n p)
def readText (n : Nat) (l : List UInt8) (p : Nat) (e : Int) : Got (List UInt8) := after [] p e (coreText n l p)
def zeroVote : Vote := ⟨0, 0, 0, zeros 32, 0, 0, zeros 16⟩
def zeroProposal : Proposal := ⟨0, 0, 0, zeros 32, 0, zeros 16⟩
def rdVote (l : List UInt8) (p : Nat) (e : Int) : Got Vote :=
  let a := readByte l p e
  let b := readVar l a.at' a.err
  let c := readVar l b.at' b.err
  let d := readRaw 32 l c.at' c.err
  let f := readVar l d.at' d.err
  let h := readVar l f.at' f.err
  ⟨⟨a.val, b.val, small c.val, padded 32 d.val, f.val, h.val, zeros 16⟩, h.at', h.err⟩
def validOf (n : Nat) : Int := if n = 0 then -1 else (small (n - 1) : Int)
def rdProposal (l : List UInt8) (p : Nat) (e : Int) : Got Proposal :=
  let a := readVar l p e
  let b := readVar l a.at' a.err
  let c := readVar l b.at' b.err
  let d := readRaw 32 l c.at' c.err
  let f := readVar l d.at' d.err
  ⟨⟨a.val, small b.val, validOf c.val, padded 32 d.val, f.val, zeros 16⟩, f.at', f.err⟩

theorem readByte_bd (l : List UInt8) (p : Nat) (e : Int) : 0 ≤ (readByte l p e).val ∧ (readByte l p e).val < 256 := by
  unfold readByte after coreByte
  split
  · split
    · exact ⟨by simp, by simp⟩
    · rename_i b _
      have := UInt8.toNat_lt b
      exact ⟨by simp, by simp; omega⟩
  · exact ⟨by simp, by simp⟩
theorem readRaw_le {l : List UInt8} {n p : Nat} {e : Int} : (readRaw n l p e).val.length ≤ n := after_le
theorem padded_len {n : Nat} {l : List UInt8} (h : l.length ≤ n) : (padded n l).length = n := by simp [padded, zeros]; omega

/-- a list with a part written over, told by what lies about it -/
theorem splice_of {xs ys zs ws : List Value} {n : Nat} (h : xs.length = n) (hl : ws.length = ys.length) : splice (xs ++ (ys ++ zs)).toArray n ws = (xs ++ (ws ++ zs)).toArray := by
  subst h
  unfold splice
  apply Array.ext'
  rw [hl]
  simp
theorem vote_kind (x : Vote) (v : Int) : splice x.cl.toArray 0 [.int .i64 v] = (Vote.cl { x with kind := v }).toArray := by
  simp only [Vote.cl, List.append_assoc]
  exact splice_of (xs := []) (ys := [.int .i64 x.kind]) rfl rfl
theorem vote_height (x : Vote) (v : Int) : splice x.cl.toArray 1 [.int .u64 v] = (Vote.cl { x with height := v }).toArray := by
  simp only [Vote.cl, List.append_assoc]
  exact splice_of (xs := [.int .i64 x.kind]) (ys := [.int .u64 x.height]) rfl rfl
theorem vote_round (x : Vote) (v : Int) : splice x.cl.toArray 2 [.int .i64 v] = (Vote.cl { x with round := v }).toArray := by
  simp only [Vote.cl, List.append_assoc]
  exact splice_of (xs := [.int .i64 x.kind, .int .u64 x.height]) (ys := [.int .i64 x.round]) rfl rfl
theorem vote_id (x : Vote) (h : List UInt8) (hx : x.id.length = 32) (hh : h.length = 32) : splice x.cl.toArray 3 (bv h) = (Vote.cl { x with id := h }).toArray := by
  simp only [Vote.cl, List.append_assoc]
  exact splice_of (xs := [.int .i64 x.kind, .int .u64 x.height, .int .i64 x.round]) (ys := bv x.id) rfl (by rw [bv_length, bv_length, hx, hh])
theorem vote_time (x : Vote) (v : Int) (hx : x.id.length = 32) : splice x.cl.toArray 35 [.int .u64 v] = (Vote.cl { x with time := v }).toArray := by
  have e : x.cl = ([.int .i64 x.kind, .int .u64 x.height, .int .i64 x.round] ++ bv x.id) ++ ([.int .u64 x.time] ++ ([.int .u64 x.frm] ++ bv x.sl)) := by simp [Vote.cl]
  have e2 : Vote.cl { x with time := v } = ([.int .i64 x.kind, .int .u64 x.height, .int .i64 x.round] ++ bv x.id) ++ ([.int .u64 v] ++ ([.int .u64 x.frm] ++ bv x.sl)) := by simp [Vote.cl]
  rw [e, e2]
  exact splice_of (by simp [bv_length, hx]) rfl
theorem vote_frm (x : Vote) (v : Int) (hx : x.id.length = 32) : splice x.cl.toArray 36 [.int .u64 v] = (Vote.cl { x with frm := v }).toArray := by
  have e : x.cl = ([.int .i64 x.kind, .int .u64 x.height, .int .i64 x.round] ++ bv x.id ++ [.int .u64 x.time]) ++ ([.int .u64 x.frm] ++ bv x.sl) := by simp [Vote.cl]
  have e2 : Vote.cl { x with frm := v } = ([.int .i64 x.kind, .int .u64 x.height, .int .i64 x.round] ++ bv x.id ++ [.int .u64 x.time]) ++ ([.int .u64 v] ++ bv x.sl) := by simp [Vote.cl]
  rw [e, e2]
  exact splice_of (by simp [bv_length, hx]) rfl
theorem vote_seal (x : Vote) (h : List UInt8) (hx : x.id.length = 32) (hs : x.sl.length = 16) (hh : h.length = 16) : splice x.cl.toArray 37 (bv h) = (Vote.cl { x with sl := h }).toArray := by
  have e : x.cl = ([.int .i64 x.kind, .int .u64 x.height, .int .i64 x.round] ++ bv x.id ++ [.int .u64 x.time, .int .u64 x.frm]) ++ (bv x.sl ++ []) := by simp [Vote.cl]
  have e2 : Vote.cl { x with sl := h } = ([.int .i64 x.kind, .int .u64 x.height, .int .i64 x.round] ++ bv x.id ++ [.int .u64 x.time, .int .u64 x.frm]) ++ (bv h ++ []) := by simp [Vote.cl]
  rw [e, e2]
  exact splice_of (by simp [bv_length, hx]) (by rw [bv_length, bv_length, hs, hh])
theorem prop_height (x : Proposal) (v : Int) : splice x.cl.toArray 0 [.int .u64 v] = (Proposal.cl { x with height := v }).toArray := by
  simp only [Proposal.cl, List.append_assoc]
  exact splice_of (xs := []) (ys := [.int .u64 x.height]) rfl rfl
theorem prop_round (x : Proposal) (v : Int) : splice x.cl.toArray 1 [.int .i64 v] = (Proposal.cl { x with round := v }).toArray := by
  simp only [Proposal.cl, List.append_assoc]
  exact splice_of (xs := [.int .u64 x.height]) (ys := [.int .i64 x.round]) rfl rfl
theorem prop_valid (x : Proposal) (v : Int) : splice x.cl.toArray 2 [.int .i64 v] = (Proposal.cl { x with valid := v }).toArray := by
  simp only [Proposal.cl, List.append_assoc]
  exact splice_of (xs := [.int .u64 x.height, .int .i64 x.round]) (ys := [.int .i64 x.valid]) rfl rfl
theorem prop_id (x : Proposal) (h : List UInt8) (hx : x.id.length = 32) (hh : h.length = 32) : splice x.cl.toArray 3 (bv h) = (Proposal.cl { x with id := h }).toArray := by
  simp only [Proposal.cl, List.append_assoc]
  exact splice_of (xs := [.int .u64 x.height, .int .i64 x.round, .int .i64 x.valid]) (ys := bv x.id) rfl (by rw [bv_length, bv_length, hx, hh])
theorem prop_frm (x : Proposal) (v : Int) (hx : x.id.length = 32) : splice x.cl.toArray 35 [.int .u64 v] = (Proposal.cl { x with frm := v }).toArray := by
  have e : x.cl = ([.int .u64 x.height, .int .i64 x.round, .int .i64 x.valid] ++ bv x.id) ++ ([.int .u64 x.frm] ++ bv x.sl) := by simp [Proposal.cl]
  have e2 : Proposal.cl { x with frm := v } = ([.int .u64 x.height, .int .i64 x.round, .int .i64 x.valid] ++ bv x.id) ++ ([.int .u64 v] ++ bv x.sl) := by simp [Proposal.cl]
  rw [e, e2]
  exact splice_of (by simp [bv_length, hx]) rfl
theorem prop_seal (x : Proposal) (h : List UInt8) (hx : x.id.length = 32) (hs : x.sl.length = 16) (hh : h.length = 16) : splice x.cl.toArray 36 (bv h) = (Proposal.cl { x with sl := h }).toArray := by
  have e : x.cl = ([.int .u64 x.height, .int .i64 x.round, .int .i64 x.valid] ++ bv x.id ++ [.int .u64 x.frm]) ++ (bv x.sl ++ []) := by simp [Proposal.cl]
  have e2 : Proposal.cl { x with sl := h } = ([.int .u64 x.height, .int .i64 x.round, .int .i64 x.valid] ++ bv x.id ++ [.int .u64 x.frm]) ++ (bv h ++ []) := by simp [Proposal.cl]
  rw [e, e2]
  exact splice_of (by simp [bv_length, hx]) (by rw [bv_length, bv_length, hs, hh])

set_option maxHeartbeats 1000000 in
theorem signed_no (w : World) (u : Value) :
    Calls Try.prog 86 #[u, .bool false] w fun en w' => en = .returned (.agg (bv (zeros 16)).toArray) ∧ Below w.heap.size w w' := by
  go_enter Try.func86, Try.ntmps86
  go_wp2_with (first
    | (with_reducible show wpList _ _ _ (Oper.mk _ (Op.alloc _) _ _ _ _ :: _) _ _; refine wpList_alloc_bk rfl _ rfl (.agg (bv (zeros 16)).toArray) (by kernel_rfl) ?_; intro bh w1 hk1 hb1 hg1 hs1; have HK := Lib.hid hk1; have HB := Lib.hid hb1; have HG := Lib.hid hg1; clear hk1 hb1 hg1 hs1)
    | (with_reducible show wpList _ _ _ (Oper.mk _ (Op.store _ _ _) _ _ _ _ :: _) _ _; go_must (refine wpList_store_bk rfl 25 _ _ rfl bh rfl (.agg (bv (zeros 16)).toArray) rfl _ _ HK.out (by kernel_rfl) rfl (by simpa [Value.cells] using bv_one (zeros 16)) ?_; intro w5 hk5 hg5 hs5)))
  exact bodyPost_cell Try.results86 rfl hk5 Try.underlying25 rfl (show ((Try.prog.info? 25).map (·.size)) = some 16 from by kernel_rfl) (by simp [Value.cells, bv, zeros]) rfl ⟨rfl, HB.out.grown hg5 (by have := HB.out.size; omega) (fun k hk => by cases hk; have := HG.out; omega)⟩
theorem Byte_rd (w : World) (g : Nat) (A : Option Addr) (c : Nat) (l : List UInt8) (p : Nat) (e : Int) (h : Re w g A c l p e) : Calls Try.prog 79 #[.pointer (some ⟨g, 0, none⟩)] w (RdRes g A c l (readByte l p e) (Value.int .u8) w) := Byte_any w g A c l p e h
theorem Var_rd (w : World) (g : Nat) (A : Option Addr) (c : Nat) (l : List UInt8) (p : Nat) (e : Int) (h : Re w g A c l p e) : Calls Try.prog 83 #[.pointer (some ⟨g, 0, none⟩)] w (RdRes g A c l (readVar l p e) toU64 w) := Var_any w g A c l p e h
abbrev toHash (n : Nat) (x : List UInt8) : Value := .agg (bv (padded n x)).toArray
theorem Hash_rd (w : World) (g : Nat) (A : Option Addr) (c : Nat) (l : List UInt8) (p : Nat) (e : Int) (h : Re w g A c l p e) : Calls Try.prog 85 #[.pointer (some ⟨g, 0, none⟩)] w (RdRes g A c l (readRaw 32 l p e) (toHash 32) w) := getHash_any w g A c l p e h
theorem Seal_rd (w : World) (g : Nat) (A : Option Addr) (c : Nat) (l : List UInt8) (p : Nat) (e : Int) (h : Re w g A c l p e) : Calls Try.prog 110 #[.pointer (some ⟨g, 0, none⟩)] w (RdRes g A c l (readRaw 16 l p e) (toHash 16) w) := getSeal_any w g A c l p e h
theorem Text_rd (w : World) (g : Nat) (A : Option Addr) (c : Nat) (l : List UInt8) (p : Nat) (e : Int) (h : Re w g A c l p e) : Calls Try.prog 81 #[.pointer (some ⟨g, 0, none⟩), .int .i64 16] w (RdRes g A c l (readText 16 l p e) toStr w) := dText_any w g A c l p e h
theorem vote_len (x : Vote) (h : x.id.length = 32) (hs : x.sl.length = 16) : x.cl.length = 53 := by simp [Vote.cl, bv_length, h, hs]
theorem prop_len (x : Proposal) (h : x.id.length = 32) (hs : x.sl.length = 16) : x.cl.length = 52 := by simp [Proposal.cl, bv_length, h, hs]
theorem vote_one (x : Vote) : ∀ u ∈ x.cl.toArray.toList, u.oneCell' = true := by
  intro u hu
  simp only [Vote.cl, List.mem_append, List.mem_cons, List.not_mem_nil, or_false] at hu
  rcases hu with ((h | h) | h) | h
  · rcases h with rfl | rfl | rfl <;> rfl
  · exact bv_one _ u h
  · rcases h with rfl | rfl <;> rfl
  · exact bv_one _ u h
theorem proposal_one (x : Proposal) : ∀ u ∈ x.cl.toArray.toList, u.oneCell' = true := by
  intro u hu
  simp only [Proposal.cl, List.mem_append, List.mem_cons, List.not_mem_nil, or_false] at hu
  rcases hu with ((h | h) | h) | h
  · rcases h with rfl | rfl | rfl <;> rfl
  · exact bv_one _ u h
  · subst h; rfl
  · exact bv_one _ u h
theorem zeros_len (n : Nat) : (zeros n).length = n := by simp [zeros]
theorem bk_eq {w : World} {g : Nat} {t : TypeId} {cs cs' : Array Value} (h : Bk w g cs t) (e : cs = cs') : Bk w g cs' t := e ▸ h

theorem vote_fit (x : Vote) (h : x.id.length = 32) (hs : x.sl.length = 16) (k : Nat) (hk : k ≤ 53) : k ≤ x.cl.toArray.size := by simp [vote_len x h hs]; exact hk
theorem prop_fit (x : Proposal) (h : x.id.length = 32) (hs : x.sl.length = 16) (k : Nat) (hk : k ≤ 52) : k ≤ x.cl.toArray.size := by simp [prop_len x h hs]; exact hk
theorem info_int1 : (Try.prog.info? 3).map (·.size) = some 1 := by kernel_rfl
theorem info_u641 : (Try.prog.info? 22).map (·.size) = some 1 := by kernel_rfl
theorem info_addr1 : (Try.prog.info? 23).map (·.size) = some 1 := by kernel_rfl
theorem info_seal16 : (Try.prog.info? 25).map (·.size) = some 16 := by kernel_rfl
theorem info_hash32 : (Try.prog.info? 29).map (·.size) = some 32 := by kernel_rfl
theorem info_vote53 : (Try.prog.info? 31).map (·.size) = some 53 := by kernel_rfl
theorem info_proposal52 : (Try.prog.info? 33).map (·.size) = some 52 := by kernel_rfl
theorem one_one {v : Value} (h : v.oneCell' = true) : ∀ u ∈ [v], u.oneCell' = true := by
  intro u hu
  simp at hu
  subst hu
  exact h

/-- a part of a known block written -/
theorem wpList_st {P : Program} {ops : Array Oper} {rest : List Oper} {o : Oper} {a : Act} {w : World} {Q : Exit → Act → World → Prop} (hw : Region.wanted o (yielded ops a.tmps) = true) (ty : TypeId) (x y : Operand) (ho : o.op = .store ty x y)
    (g off : Nat) (hx : a.eval x = .pointer (some ⟨g, off, none⟩)) (v : Value) (hy : a.eval y = v) (xs : List Value) (hv : v.cells.toList = xs) (n : Nat) (hi : (P.info? ty).map (·.size) = some n) (hl : xs.length = n) (cs : Array Value) (t : TypeId) (hk : Bk w g cs t) (hn : off + n ≤ cs.size) (h1 : ∀ u ∈ xs, u.oneCell' = true)
    (h : ∀ w', Bk w' g (splice cs off xs) t → w.grownBy w' (some g) → w'.heap.size = w.heap.size → wpList P ops Q rest (a.put o.dst undef) w') : wpList P ops Q (o :: rest) a w := by
  subst hv
  have hl' : v.cells.size = n := by simpa using hl
  subst hl'
  exact wpList_store_part hw ty x y ho g off hx v hy cs t hk hi hn h1 h

/-- a thing under way: what the Reader is at, what has been laid into the variable -/
structure Bld (w0 : World) (g : Nat) (A : Option Addr) (c : Nat) (l : List UInt8) (bx : Nat) (T : TypeId) (w : World) (p : Nat) (e : Int) (X : Array Value) : Prop where
  re : Re w g A c l p e
  ch : Ch [g] w0 w
  bk : Bk w bx X T
structure Side (w0 : World) (g : Nat) (A : Option Addr) (bx : Nat) : Prop where
  g : g < w0.heap.size
  a : ∀ a, A = some a → a.block < w0.heap.size
  x : w0.heap.size ≤ bx
section
variable {w0 w w' : World} {g : Nat} {A : Option Addr} {c : Nat} {l : List UInt8} {bx : Nat} {T : TypeId} {p : Nat} {e : Int} {X : Array Value}
theorem Bld.call {p' : Nat} {e' : Int} (h : Bld w0 g A c l bx T w p e X) (s : Side w0 g A bx) (ch : Ch [g] w w') (re : Re w' g A c l p' e') : Bld w0 g A c l bx T w' p' e' X :=
  ⟨re, h.ch.same ch, h.bk.ch ch (by have := s.g; have := s.x; simp; omega)⟩
theorem Bld.below (h : Bld w0 g A c l bx T w p e X) (hb : Below w.heap.size w w') : Bld w0 g A c l bx T w' p e X :=
  ⟨h.re.below hb, h.ch.same (Ch.of_below _ hb), h.bk.below hb h.bk.lt⟩
theorem Bld.store {X' Y : Array Value} (h : Bld w0 g A c l bx T w p e X) (s : Side w0 g A bx) (hk : Bk w' bx Y T) (hg : w.grownBy w' (some bx)) (he : Y = X') : Bld w0 g A c l bx T w' p e X' :=
  ⟨re_own h.re hg (by have := s.g; have := s.x; omega) (fun a ha => by have := s.a a ha; have := s.x; omega), ch_own h.ch hg s.x, he ▸ hk⟩
end

theorem splice_all {xs : List Value} {n : Nat} (h : xs.length = n) : splice xs.toArray 0 xs = xs.toArray := by
  unfold splice
  apply Array.ext'
  simp

theorem groups_bd {rest : List UInt8} : ∀ {k acc v n : Nat}, groups rest k acc = .inr (v, n) → acc < 128 ^ k → k ≤ 9 → v < 18446744073709551616 := by
  induction rest with
  | nil => intro k acc v n h; unfold groups at h; cases h
  | cons b rest ih =>
    intro k acc v n h ha hk
    have hb := UInt8.toNat_lt b
    unfold groups at h
    split at h
    · cases h
    · rename_i hbad
      split at h
      · rename_i hlt
        cases h
        exact acc_lt ha hk hlt (fun h9 => by omega)
      · rename_i hge
        by_cases h9 : k = 9
        · omega
        · refine ih h ?_ (by omega)
          exact acc_lt' ha (by omega)
theorem readVar_bd (l : List UInt8) (p : Nat) (e : Int) : (readVar l p e).val < 18446744073709551616 := by
  unfold readVar after coreVar
  split
  · cases hq : groups (l.drop p) 0 0 with
    | inl x => simp
    | inr x => exact groups_bd hq (by decide) (by omega)
  · simp
theorem narrow_int (w : World) (n : Nat) (x : Int) (h : x = n) :
    Calls Try.prog 84 #[.int .u64 x] w fun en w' => en = .returned (.int .i64 (small n)) ∧ w = w' := by
  subst h
  exact narrow_any w n

set_option maxHeartbeats 4000000 in
theorem getVote_no (w : World) (g : Nat) (A : Option Addr) (c : Nat) (l : List UInt8) (p : Nat) (e : Int) (h : Re w g A c l p e) :
    Calls Try.prog 46 #[.pointer (some ⟨g, 0, none⟩), .bool false] w (RdRes g A c l (rdVote l p e) (fun x => .agg x.cl.toArray) w) := by
  obtain ⟨K1, hK1⟩ : ∃ K, readByte l p e = K := ⟨_, rfl⟩
  have bdK1 := readByte_bd l p e
  rw [hK1] at bdK1
  have HK1 := Lib.hid hK1
  clear hK1
  obtain ⟨K2, hK2⟩ : ∃ K, readVar l K1.at' K1.err = K := ⟨_, rfl⟩
  have HK2 := Lib.hid hK2
  clear hK2
  obtain ⟨K3, hK3⟩ : ∃ K, readVar l K2.at' K2.err = K := ⟨_, rfl⟩
  have HK3 := Lib.hid hK3
  clear hK3
  obtain ⟨K4, hK4⟩ : ∃ K, readRaw 32 l K3.at' K3.err = K := ⟨_, rfl⟩
  have leK4 : (readRaw 32 l K3.at' K3.err).val.length ≤ 32 := readRaw_le
  rw [hK4] at leK4
  have LEK4 := Lib.hid (padded_len leK4)
  clear leK4
  have HK4 := Lib.hid hK4
  clear hK4
  obtain ⟨K5, hK5⟩ : ∃ K, readVar l K4.at' K4.err = K := ⟨_, rfl⟩
  have HK5 := Lib.hid hK5
  clear hK5
  obtain ⟨K6, hK6⟩ : ∃ K, readVar l K5.at' K5.err = K := ⟨_, rfl⟩
  have HK6 := Lib.hid hK6
  clear hK6
  have HF := Lib.hid (show rdVote l p e = ⟨⟨K1.val, K2.val, small K3.val, padded 32 K4.val, K5.val, K6.val, zeros 16⟩, K6.at', K6.err⟩ from by
    unfold rdVote
    simp only [HK1.out, HK2.out, HK3.out, HK4.out, HK5.out, HK6.out])
  have hgl : g < w.heap.size := h.bk.lt
  have HA := Lib.hid h.lt
  have HR0 := Lib.hid h
  clear h
  have WK1 : IntKind.i64.wrap K1.val = K1.val := by rw [IntKind.wrap_i64]; omega
  go_enter Try.func46, Try.ntmps46
  go_wp2_with (with_reducible show wpList _ _ _ (Oper.mk _ (Op.alloc _) _ _ _ _ :: _) _ _; refine wpList_alloc_bk rfl _ rfl (.agg (Vote.mk 0 0 0 (zeros 32) 0 0 (zeros 16)).cl.toArray) (by kernel_rfl) ?_)
  intro bx w1 hk1 hb1 hg1 hs1
  have HS := Lib.hid (Side.mk (w0 := w) (g := g) (A := A) (bx := bx) hgl HA.out (by omega))
  have B1 := Lib.hid (Bld.mk (T := 31) (HR0.out.below hb1) (Ch.of_below [g] hb1) hk1)
  clear hk1 hb1 hg1 hs1 HR0
  go_wp2_with fail
  refine (Byte_rd w1 g A c l _ _ B1.out.re).mono ?_
  rintro en w2 ⟨rfl, ch, re⟩
  rw [HK1.out] at re ⊢
  have B2 := Lib.hid (B1.out.call HS.out ch re)
  clear ch re B1
  go_wp2_with (with_reducible show wpList _ _ _ (Oper.mk _ (Op.store 3 _ _) _ _ _ _ :: _) _ _; go_must (refine wpList_st rfl 3 _ _ rfl bx 0 rfl (.int .i64 K1.val) rfl [.int .i64 K1.val] rfl 1 info_int1 rfl _ _ B2.out.bk (vote_fit _ (zeros_len 32) (zeros_len 16) _ (by omega)) (one_one rfl) ?_; intro w3 hk3 hg3 hs3; have B3 := Lib.hid (B2.out.store (X' := ((Vote.mk K1.val 0 0 (zeros 32) 0 0 (zeros 16))).cl.toArray) HS.out hk3 hg3 (vote_kind (Vote.mk 0 0 0 (zeros 32) 0 0 (zeros 16)) K1.val)); clear hk3 hg3 hs3 B2))
  refine (Var_rd w3 g A c l _ _ B3.out.re).mono ?_
  rintro en w4 ⟨rfl, ch, re⟩
  rw [HK2.out] at re ⊢
  have B4 := Lib.hid (B3.out.call HS.out ch re)
  clear ch re B3
  go_wp2_with (with_reducible show wpList _ _ _ (Oper.mk _ (Op.store 22 _ _) _ _ _ _ :: _) _ _; go_must (refine wpList_st rfl 22 _ _ rfl bx 1 rfl (.int .u64 K2.val) rfl [.int .u64 K2.val] rfl 1 info_u641 rfl _ _ B4.out.bk (vote_fit _ (zeros_len 32) (zeros_len 16) _ (by omega)) (one_one rfl) ?_; intro w5 hk5 hg5 hs5; have B5 := Lib.hid (B4.out.store (X' := ((Vote.mk K1.val K2.val 0 (zeros 32) 0 0 (zeros 16))).cl.toArray) HS.out hk5 hg5 (vote_height (Vote.mk K1.val 0 0 (zeros 32) 0 0 (zeros 16)) K2.val)); clear hk5 hg5 hs5 B4))
  refine (Var_rd w5 g A c l _ _ B5.out.re).mono ?_
  rintro en w6 ⟨rfl, ch, re⟩
  rw [HK3.out] at re ⊢
  have B6 := Lib.hid (B5.out.call HS.out ch re)
  clear ch re B5
  go_wp2_with fail
  refine (narrow_any w6 K3.val).mono ?_
  rintro en wq ⟨rfl, rfl⟩
  go_wp2_with (with_reducible show wpList _ _ _ (Oper.mk _ (Op.store 3 _ _) _ _ _ _ :: _) _ _; go_must (refine wpList_st rfl 3 _ _ rfl bx 2 rfl (.int .i64 (small K3.val)) rfl [.int .i64 (small K3.val)] rfl 1 info_int1 rfl _ _ B6.out.bk (vote_fit _ (zeros_len 32) (zeros_len 16) _ (by omega)) (one_one rfl) ?_; intro w7 hk7 hg7 hs7; have B7 := Lib.hid (B6.out.store (X' := ((Vote.mk K1.val K2.val (small K3.val) (zeros 32) 0 0 (zeros 16))).cl.toArray) HS.out hk7 hg7 (vote_round (Vote.mk K1.val K2.val 0 (zeros 32) 0 0 (zeros 16)) (small K3.val))); clear hk7 hg7 hs7 B6))
  refine (Hash_rd w7 g A c l _ _ B7.out.re).mono ?_
  rintro en w8 ⟨rfl, ch, re⟩
  rw [HK4.out] at re ⊢
  have B8 := Lib.hid (B7.out.call HS.out ch re)
  clear ch re B7
  go_wp2_with (with_reducible show wpList _ _ _ (Oper.mk _ (Op.store 29 _ _) _ _ _ _ :: _) _ _; go_must (refine wpList_st rfl 29 _ _ rfl bx 3 rfl (.agg (bv (padded 32 K4.val)).toArray) rfl (bv (padded 32 K4.val)) rfl 32 info_hash32 (by rw [bv_length]; exact LEK4.out) _ _ B8.out.bk (vote_fit _ (zeros_len 32) (zeros_len 16) _ (by omega)) (bv_one _) ?_; intro w9 hk9 hg9 hs9; have B9 := Lib.hid (B8.out.store (X' := ((Vote.mk K1.val K2.val (small K3.val) (padded 32 K4.val) 0 0 (zeros 16))).cl.toArray) HS.out hk9 hg9 (vote_id (Vote.mk K1.val K2.val (small K3.val) (zeros 32) 0 0 (zeros 16)) (padded 32 K4.val) (zeros_len 32) LEK4.out)); clear hk9 hg9 hs9 B8))
  refine (Var_rd w9 g A c l _ _ B9.out.re).mono ?_
  rintro en w10 ⟨rfl, ch, re⟩
  rw [HK5.out] at re ⊢
  have B10 := Lib.hid (B9.out.call HS.out ch re)
  clear ch re B9
  go_wp2_with (with_reducible show wpList _ _ _ (Oper.mk _ (Op.store 22 _ _) _ _ _ _ :: _) _ _; go_must (refine wpList_st rfl 22 _ _ rfl bx 35 rfl (.int .u64 K5.val) rfl [.int .u64 K5.val] rfl 1 info_u641 rfl _ _ B10.out.bk (vote_fit _ LEK4.out (zeros_len 16) _ (by omega)) (one_one rfl) ?_; intro w11 hk11 hg11 hs11; have B11 := Lib.hid (B10.out.store (X' := ((Vote.mk K1.val K2.val (small K3.val) (padded 32 K4.val) K5.val 0 (zeros 16))).cl.toArray) HS.out hk11 hg11 (vote_time (Vote.mk K1.val K2.val (small K3.val) (padded 32 K4.val) 0 0 (zeros 16)) K5.val LEK4.out)); clear hk11 hg11 hs11 B10))
  refine (Var_rd w11 g A c l _ _ B11.out.re).mono ?_
  rintro en w12 ⟨rfl, ch, re⟩
  rw [HK6.out] at re ⊢
  have B12 := Lib.hid (B11.out.call HS.out ch re)
  clear ch re B11
  go_wp2_with (with_reducible show wpList _ _ _ (Oper.mk _ (Op.store 23 _ _) _ _ _ _ :: _) _ _; go_must (refine wpList_st rfl 23 _ _ rfl bx 36 rfl (.int .u64 K6.val) rfl [.int .u64 K6.val] rfl 1 info_addr1 rfl _ _ B12.out.bk (vote_fit _ LEK4.out (zeros_len 16) _ (by omega)) (one_one rfl) ?_; intro w13 hk13 hg13 hs13; have B13 := Lib.hid (B12.out.store (X' := ((Vote.mk K1.val K2.val (small K3.val) (padded 32 K4.val) K5.val K6.val (zeros 16))).cl.toArray) HS.out hk13 hg13 (vote_frm (Vote.mk K1.val K2.val (small K3.val) (padded 32 K4.val) K5.val 0 (zeros 16)) K6.val LEK4.out)); clear hk13 hg13 hs13 B12))
  refine (signed_no w13 _).mono ?_
  rintro en w14 ⟨rfl, hb⟩
  have B14 := Lib.hid (B13.out.below hb)
  clear hb B13
  have HL := Lib.hid (vote_len (Vote.mk K1.val K2.val (small K3.val) (padded 32 K4.val) K5.val K6.val (zeros 16)) LEK4.out (zeros_len 16))
  go_wp2_with (first
    | (with_reducible show wpList _ _ _ (Oper.mk _ (Op.store 25 _ _) _ _ _ _ :: _) _ _; go_must (refine wpList_st rfl 25 _ _ rfl bx 37 rfl (.agg (bv (zeros 16)).toArray) rfl (bv (zeros 16)) rfl 16 info_seal16 (by rw [bv_length]; exact zeros_len 16) _ _ B14.out.bk (vote_fit _ LEK4.out (zeros_len 16) _ (by omega)) (bv_one _) ?_; intro w15 hk15 hg15 hs15; have B15 := Lib.hid (B14.out.store (X' := ((Vote.mk K1.val K2.val (small K3.val) (padded 32 K4.val) K5.val K6.val (zeros 16))).cl.toArray) HS.out hk15 hg15 (vote_seal (Vote.mk K1.val K2.val (small K3.val) (padded 32 K4.val) K5.val K6.val (zeros 16)) (zeros 16) LEK4.out (zeros_len 16) (zeros_len 16))); clear hk15 hg15 hs15 B14))
    | (with_reducible show wpList _ _ _ (Oper.mk _ (Op.load _ _) _ _ _ _ :: _) _ _; refine wpList_load_part rfl 31 _ rfl bx 0 53 rfl _ _ _ B15.out.bk Try.underlying31 rfl info_vote53 (by simp [HL.out]) _ (cl_all HL.out) ?_)
    | (with_reducible show wpList _ _ _ (Oper.mk _ (Op.store 31 _ _) _ _ _ _ :: _) _ _; go_must (refine wpList_st rfl 31 _ _ rfl bx 0 rfl (.agg ((Vote.mk K1.val K2.val (small K3.val) (padded 32 K4.val) K5.val K6.val (zeros 16))).cl.toArray) rfl ((Vote.mk K1.val K2.val (small K3.val) (padded 32 K4.val) K5.val K6.val (zeros 16))).cl rfl 53 info_vote53 HL.out _ _ B15.out.bk (by simp [HL.out]) (vote_one _) ?_; intro wz hkz hgz hsz; have Bz := Lib.hid (B15.out.store HS.out hkz hgz (splice_all HL.out)))))
  rw [HF.out]
  exact bodyPost_cell Try.results46 rfl Bz.out.bk Try.underlying31 rfl info_vote53 (by simp [HL.out]) rfl ⟨rfl, Bz.out.ch, Bz.out.re⟩


end Go.Proofs.Ytocgcalaiejbiaa
