/-
  The library's symMerge_func: the contract.
-/
import Derived.Test.YtblgeehdngejpaaSwp6
namespace Go.Proofs.Ytblgeehdngejpaa
open Go.RowKit Go.Lib Go.Sort Go.Shelf
set_option linter.unusedVariables false
variable {en : Int → Value}

theorem symMerge_all (lt : Int → Int → Bool) (hO : SWO lt) (g : Nat) (lb : Array Value) (sf : Nat) (sb : Array Value) (blk off size : Nat) (eg : ∀ args w, (callFunc g args).run Try.prog w = .ok (.enter g args) w) (hswap : SwapSwaps Try.prog sf sb en blk off size) (hsz : size ≤ 1000) : ∀ N, SymM en lt g lb sf sb blk off size N
  | 0 => fun a m b d W hN _ _ _ _ ham hmb _ _ => by omega
  | N + 1 => fun a m b d W hN hless hH hblk hd ham hmb hb hM => by
    by_cases h1 : a + 1 = m
    · exact symMerge_one lt hO g lb sf sb blk off size eg hswap a m b d W hless hH hblk hd h1 hmb hb hsz hM
    · by_cases h2 : m + 1 = b
      · exact symMerge_last lt hO g lb sf sb blk off size eg hswap a m b d W hless hH hblk hd (by omega) h2 hb hsz hM
      · exact symMerge_step lt hO g lb sf sb blk off size N eg hswap hsz (symMerge_all lt hO g lb sf sb blk off size eg hswap hsz N) a m b d W hN hless hH hblk hd (by omega) (by omega) hb hM
end Go.Proofs.Ytblgeehdngejpaa
